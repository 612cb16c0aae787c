/- The document's answer: how a model is written. -/
import Derived.Test.YthpekiohalejmaaGreatDoorTreeD
set_option linter.unusedVariables false
set_option linter.unusedSimpArgs false
namespace Go.Tree
theorem join_snoc (s x : List UInt8) : ∀ (l : List (List UInt8)), l ≠ [] → Lib.join (l ++ [x]) s = Lib.join l s ++ s ++ x
  | [], h => absurd rfl h
  | [y], _ => by simp [Lib.join]
  | y :: z :: l, _ => by
    have h1 := join_snoc s x (z :: l) (by simp)
    have h2 : Lib.join (y :: z :: l ++ [x]) s = y ++ s ++ Lib.join (z :: l ++ [x]) s := by simp [Lib.join]
    have h3 : Lib.join (y :: z :: l) s = y ++ s ++ Lib.join (z :: l) s := by simp [Lib.join]
    rw [h2, h3, h1]
    simp
theorem joinS_one (x : ByteArray) : joinS ([] ++ [x]) = x := by
  apply ByteArray.ext
  simp [joinS, Lib.join]
theorem joinS_snoc {l : List ByteArray} (x : ByteArray) (h : l ≠ []) : joinS (l ++ [x]) = joinS l ++ str [44, 32] ++ x := by
  apply ByteArray.ext
  have := join_snoc [44, 32] x.data.toList (l.map (·.data.toList)) (by simpa using h)
  simp only [joinS, List.map_append, List.map_cons, List.map_nil]
  rw [this]
  simp [str]
theorem accS_one (h x : ByteArray) : h ++ joinS ([] ++ [x]) = h ++ x := by rw [joinS_one]
theorem accS_snoc {l : List ByteArray} (h x : ByteArray) (hl : l ≠ []) : h ++ joinS (l ++ [x]) = h ++ joinS l ++ str [44, 32] ++ x := by
  rw [joinS_snoc x hl, ByteArray.append_assoc, ByteArray.append_assoc, ByteArray.append_assoc]
theorem accS_nil (h : ByteArray) : h = h ++ joinS [] := by
  have : joinS [] = ByteArray.empty := by apply ByteArray.ext; simp [joinS, Lib.join]
  rw [this, ByteArray.append_empty]
theorem sum_take {α : Type} (g : α → Nat) (l : List α) (i : Nat) : ((l.take i).map g).sum ≤ (l.map g).sum := by
  conv => rhs; rw [← List.take_append_drop i l, List.map_append, List.sum_append]
  omega
theorem take_ne {α : Type} {l : List α} {i : Nat} (h : 0 < i) (hl : i < l.length) : l.take i ≠ [] := fun e => by
  have := congrArg List.length e
  rw [List.length_take, List.length_nil] at this
  omega
theorem ret_no2 {b : Bool} {s : ByteArray} (h : b = false) : (Value.tuple #[.string ⟨#[]⟩, .bool false]) = .tuple #[.string (if b then s else ⟨#[]⟩), .bool b] := by subst h; rfl
theorem ret_yes2 {b : Bool} {s t : ByteArray} (h : b = true) (hs : s = t) : (Value.tuple #[.string s, .bool true]) = .tuple #[.string (if b then t else ⟨#[]⟩), .bool b] := by subst h hs; rfl
theorem all_no {α : Type} {p : α → Bool} {l : List α} {x : α} (hm : x ∈ l) (h : p x = false) : l.all p = false := List.all_eq_false.2 ⟨x, hm, by rw [h]; decide⟩
theorem all_up {α : Type} {p : α → Bool} {l : List α} {x : α} {i : Nat} (htk : l.take (i + 1) = l.take i ++ [x]) (ha : (l.take i).all p = true) (h : p x = true) : (l.take (i + 1)).all p = true := by
  rw [htk, List.all_append, ha]; simp [h]
theorem all_end {α : Type} {p : α → Bool} {l : List α} (h : (l.take l.length).all p = true) : l.all p = true := by rwa [List.take_length] at h
theorem deX_take {tx : Ex → ByteArray} {l : List Ex} {i : Nat} {x : Ex} {s : ByteArray} (htk : l.take (i + 1) = l.take i ++ [x]) : deX tx (l.take (i + 1)) s = deX tx (l.take i) s ++ (str [32, 61, 32] ++ tx x) := by rw [htk]; exact deX_next _ _ _
theorem accM_one {α : Type} {f : α → ByteArray} {l : List α} {x : α} (htk : l.take (0 + 1) = l.take 0 ++ [x]) (h : ByteArray) : h ++ joinS ((l.take (0 + 1)).map f) = h ++ joinS ((l.take 0).map f) ++ f x := by
  rw [htk, List.take_zero, List.map_append, List.map_nil, ← accS_nil]; exact accS_one _ _
theorem accM_snoc {α : Type} {f : α → ByteArray} {l : List α} {x : α} {i : Nat} (htk : l.take (i + 1) = l.take i ++ [x]) (h : ByteArray) (h0 : 0 < i) (hl : i < l.length) : h ++ joinS ((l.take (i + 1)).map f) = h ++ joinS ((l.take i).map f) ++ str [44, 32] ++ f x := by
  rw [htk, List.map_append]; exact accS_snoc _ _ (by simpa using take_ne h0 hl)
def enH (e : En) : ByteArray := str [101, 110, 117, 109, 32] ++ e.name ++ str [32, 123, 32]
def smallB (n : Int) : Bool := decide (-1000000 ≤ n) && decide (n ≤ 1000000)
end Go.Tree
namespace Go.Proofs.YthpekiohalejmaaGreatDoor
open Go Go.Vc Go.Tree
set_option maxHeartbeats 4000000
set_option maxRecDepth 100000
def ruH (r : Ru) : ByteArray := str [32, 32, 119, 104, 101, 110, 32] ++ txt r.when_ ++ str [32, 100, 111, 32]
section
variable {w0 w : World} {l : List Res}
theorem dEnum (e : En) (H : Sep w0 w l) (hs : EnOk w0 e) (hb : enK e ≤ 2000000) : Does Tryz.prog 19 #[enA e] w fun v w' => v = .tuple #[.string (if enB e then enT e else ⟨#[]⟩), .bool (enB e)] ∧ Sep w0 w' l := by
  have hlen := en_len hb
  have hns : e.name.size ≤ 2000000 := by unfold enK at hb; omega
  have hvs : ∀ v ∈ e.vals, v.size ≤ 2000000 := fun v hv => by
    have := sum_mem (g := fun v : ByteArray => v.size + 1) hv
    unfold enK at hb
    omega
  have hz : ∀ i, (joinS ((e.vals.take i).map id)).size ≤ 4000000 := fun i => by
    have h1 := joinS_size ((e.vals.take i).map id)
    rw [List.map_id] at h1 ⊢
    have h2 : ((e.vals.take i).map fun s => s.size + 2).sum ≤ 2 * ((e.vals.take i).map fun v => v.size + 1).sum := sum_mul fun x _ => by omega
    have h3 := sum_take (fun v : ByteArray => v.size + 1) e.vals i
    unfold enK at hb
    omega
  have hzH : (enH e).size ≤ 2000008 := by unfold enH; simp only [ByteArray.size_append, str_size, List.length_cons, List.length_nil]; omega
  have hsv : Src w0 e.a e.vals.length 1 (e.vals.map Value.string) := hs.1
  refine Does_intro tok (Tryz.call19 _ _) Tryz.func19 rfl (by rfl) ?_
  (repeat first | refine goN ?_ | ((try conv => whnf); first | (refine Ar_gate ?_; first | (fail_if_success skip) | refine xA ?_) | (first | refine Do_str_eq ?_ | refine Do_str_ne ?_ | refine DoN_len tok rfl ?_ | refine Eqv_in ?_)) | ((try conv => whnf); (first | (refine St_gate ?_; refine xS ?_) | (refine StN_gate ?_; refine xN ?_)); clear H; intro w H))
  (refine Nw_sep H ?_; clear H; intro xb w H; (try simp only [Value.cells, List.toList_toArray, List.append_nil, List.cons_append, List.nil_append] at H))
  (repeat first | refine goN ?_ | ((try conv => whnf); first | (refine Ar_gate ?_; first | (fail_if_success skip) | refine xA ?_) | (first | refine Do_str_eq ?_ | refine Do_str_ne ?_ | refine DoN_len tok rfl ?_ | refine Eqv_in ?_)) | ((try conv => whnf); (first | (refine St_gate ?_; refine xS ?_) | (refine StN_gate ?_; refine xN ?_)); clear H; intro w H))
  refine Call_of (dName e.name hns H) ?_
  clear H
  intro rv w hR
  have H := hR.2
  have hrv := hR.1
  clear hR
  by_cases h1 : nameB e.name = true
  case neg =>
    have h1 : nameB e.name = false := by simpa using h1
    rw [h1] at hrv
    subst hrv
    (repeat first | refine goN ?_ | ((try conv => whnf); first | (refine Ar_gate ?_; first | (fail_if_success skip) | refine xA ?_) | (first | refine Do_str_eq ?_ | refine Do_str_ne ?_ | refine DoN_len tok rfl ?_ | refine Eqv_in ?_)) | ((try conv => whnf); (first | (refine St_gate ?_; refine xS ?_) | (refine StN_gate ?_; refine xN ?_)); clear H; intro w H))
    exact Ret_in ⟨ret_no2 (by unfold enB; rw [h1]; rfl), H.tail⟩
  rw [h1] at hrv
  subst hrv
  by_cases h2 : 1 ≤ e.vals.length
  case neg =>
    (repeat first | refine goN ?_ | ((try conv => whnf); first | (refine Ar_gate ?_; first | (fail_if_success skip) | refine xA ?_) | (first | refine Do_str_eq ?_ | refine Do_str_ne ?_ | refine DoN_len tok rfl ?_ | refine Eqv_in ?_)) | ((try conv => whnf); (first | (refine St_gate ?_; refine xS ?_) | (refine StN_gate ?_; refine xN ?_)); clear H; intro w H))
    exact Ret_in ⟨ret_no2 (by unfold enB manyB; rw [decide_eq_false h2]; simp), H.tail⟩
  by_cases h3 : e.vals.length ≤ 32
  case neg =>
    (repeat first | refine goN ?_ | ((try conv => whnf); first | (refine Ar_gate ?_; first | (fail_if_success skip) | refine xA ?_) | (first | refine Do_str_eq ?_ | refine Do_str_ne ?_ | refine DoN_len tok rfl ?_ | refine Eqv_in ?_)) | ((try conv => whnf); (first | (refine St_gate ?_; refine xS ?_) | (refine StN_gate ?_; refine xN ?_)); clear H; intro w H))
    exact Ret_in ⟨ret_no2 (by unfold enB manyB; rw [decide_eq_false h3]; simp), H.tail⟩
  (repeat first | refine goN ?_ | ((try conv => whnf); first | (refine Ar_gate ?_; first | (fail_if_success skip) | refine xA ?_) | (first | refine Do_str_eq ?_ | refine Do_str_ne ?_ | refine DoN_len tok rfl ?_ | refine Eqv_in ?_)) | ((try conv => whnf); (first | (refine St_gate ?_; refine xS ?_) | (refine StN_gate ?_; refine xN ?_)); clear H; intro w H))
  refine Do_sadd ?_ (by (try simp only [ByteArray.size_append, byteSize, str_size, List.size_toArray, List.length_cons, List.length_nil]); omega)
  (repeat first | refine goN ?_ | ((try conv => whnf); first | (refine Ar_gate ?_; first | (fail_if_success skip) | refine xA ?_) | (first | refine Do_str_eq ?_ | refine Do_str_ne ?_ | refine DoN_len tok rfl ?_ | refine Eqv_in ?_)) | ((try conv => whnf); (first | (refine St_gate ?_; refine xS ?_) | (refine StN_gate ?_; refine xN ?_)); clear H; intro w H))
  refine Do_sadd ?_ (by (try simp only [ByteArray.size_append, byteSize, str_size, List.size_toArray, List.length_cons, List.length_nil]); omega)
  (repeat first | refine goN ?_ | ((try conv => whnf); first | (refine Ar_gate ?_; first | (fail_if_success skip) | refine xA ?_) | (first | refine Do_str_eq ?_ | refine Do_str_ne ?_ | refine DoN_len tok rfl ?_ | refine Eqv_in ?_)) | ((try conv => whnf); (first | (refine St_gate ?_; refine xS ?_) | (refine StN_gate ?_; refine xN ?_)); clear H; intro w H))
  refine Loop_intro (fun i : Nat => [(30, .int .i64 (i : Int)), (4, .string (enH e ++ joinS ((e.vals.take i).map id)))]) (fun i w => (i ≤ e.vals.length ∧ (e.vals.take i).all nameB = true) ∧ Sep w0 w (cellsR xb 48 (enV e) :: l)) (fun i => e.vals.length - i)
    0 ⟨rfl, congrArg some (congrArg Value.string (accS_nil (enH e))), trivial⟩ ⟨⟨Nat.zero_le _, rfl⟩, H⟩ ?_
  clear H
  rintro i w ⟨⟨hi, hall⟩, H⟩
  refine Br_dec (fun k1 => ?_) (fun k1 => ?_)
  · have k3 : (i : Int) < (e.vals.length : Nat) := k1
    have hlt : i < e.vals.length := by omega
    refine Exists.elim (⟨_, List.getElem?_eq_getElem hlt⟩ : ∃ u, e.vals[i]? = some u) fun k hx => ?_
    have htk : e.vals.take (i + 1) = e.vals.take i ++ [k] := by rw [List.take_add_one, hx]; rfl
    have hmem := List.mem_of_getElem? hx
    have hok := H.rd hsv
    refine Exists.elim (hok.addr (by rw [List.length_map]; omega)) fun b hb1 => Exists.elim hb1 fun o ho => ?_
    have hkz := hvs k hmem
    have z3 := hz i
    have ho2 : Src w (some ⟨b, o, none⟩) e.vals.length 1 (e.vals.map Value.string) := by rw [← ho]; exact hok
    have hx' : (e.vals.map Value.string)[i]? = some (.string k) := by rw [List.getElem?_map, hx]; rfl
    rw [ho]
    (repeat first | refine goN ?_ | ((try conv => whnf); first | (refine Ar_gate ?_; first | (fail_if_success skip) | refine xA ?_) | (first | refine Do_str_eq ?_ | refine Do_str_ne ?_ | refine DoN_len tok rfl ?_ | refine Eqv_in ?_)) | ((try conv => whnf); (first | (refine St_gate ?_; refine xS ?_) | (refine StN_gate ?_; refine xN ?_)); clear H; intro w H))
    refine Ix_in i rfl hlt ?_
    conv => whnf
    refine Ld_src (j := i) ho2 hx' ?_
    clear ho2 hok
    (repeat first | refine goN ?_ | ((try conv => whnf); first | (refine Ar_gate ?_; first | (fail_if_success skip) | refine xA ?_) | (first | refine Do_str_eq ?_ | refine Do_str_ne ?_ | refine DoN_len tok rfl ?_ | refine Eqv_in ?_)) | ((try conv => whnf); (first | (refine St_gate ?_; refine xS ?_) | (refine StN_gate ?_; refine xN ?_)); clear H; intro w H))
    refine Call_of (dName k hkz H) ?_
    clear H
    intro rv w hR
    have H := hR.2
    have hrv := hR.1
    clear hR
    by_cases g1 : nameB k = true
    case neg =>
      have g1 : nameB k = false := by simpa using g1
      rw [g1] at hrv
      subst hrv
      (repeat first | refine goN ?_ | ((try conv => whnf); first | (refine Ar_gate ?_; first | (fail_if_success skip) | refine xA ?_) | (first | refine Do_str_eq ?_ | refine Do_str_ne ?_ | refine DoN_len tok rfl ?_ | refine Eqv_in ?_)) | ((try conv => whnf); (first | (refine St_gate ?_; refine xS ?_) | (refine StN_gate ?_; refine xN ?_)); clear H; intro w H))
      exact Ret_in ⟨ret_no2 (by unfold enB; rw [all_no hmem g1, Bool.and_false]), H.tail⟩
    rw [g1] at hrv
    subst hrv
    by_cases g2 : 0 < i
    case neg =>
      have g3 : i = 0 := by omega
      subst g3
      (repeat first | refine goN ?_ | ((try conv => whnf); first | (refine Ar_gate ?_; first | (fail_if_success skip) | refine xA ?_) | (first | refine Do_str_eq ?_ | refine Do_str_ne ?_ | refine DoN_len tok rfl ?_ | refine Eqv_in ?_)) | ((try conv => whnf); (first | (refine St_gate ?_; refine xS ?_) | (refine StN_gate ?_; refine xN ?_)); clear H; intro w H))
      refine Do_sadd ?_ (by (try simp only [ByteArray.size_append, byteSize, str_size, List.size_toArray, List.length_cons, List.length_nil]); omega)
      (repeat first | refine goN ?_ | ((try conv => whnf); first | (refine Ar_gate ?_; first | (fail_if_success skip) | refine xA ?_) | (first | refine Do_str_eq ?_ | refine Do_str_ne ?_ | refine DoN_len tok rfl ?_ | refine Eqv_in ?_)) | ((try conv => whnf); (first | (refine St_gate ?_; refine xS ?_) | (refine StN_gate ?_; refine xN ?_)); clear H; intro w H))
      exact ⟨0 + 1, ⟨congrArg some (vint (by omega)), congrArg some (congrArg Value.string (accM_one (f := id) htk (enH e)).symm), trivial⟩, ⟨⟨by omega, all_up htk hall g1⟩, H⟩, by omega⟩
    (repeat first | refine goN ?_ | ((try conv => whnf); first | (refine Ar_gate ?_; first | (fail_if_success skip) | refine xA ?_) | (first | refine Do_str_eq ?_ | refine Do_str_ne ?_ | refine DoN_len tok rfl ?_ | refine Eqv_in ?_)) | ((try conv => whnf); (first | (refine St_gate ?_; refine xS ?_) | (refine StN_gate ?_; refine xN ?_)); clear H; intro w H))
    refine Do_sadd ?_ (by (try simp only [ByteArray.size_append, byteSize, str_size, List.size_toArray, List.length_cons, List.length_nil]); omega)
    (repeat first | refine goN ?_ | ((try conv => whnf); first | (refine Ar_gate ?_; first | (fail_if_success skip) | refine xA ?_) | (first | refine Do_str_eq ?_ | refine Do_str_ne ?_ | refine DoN_len tok rfl ?_ | refine Eqv_in ?_)) | ((try conv => whnf); (first | (refine St_gate ?_; refine xS ?_) | (refine StN_gate ?_; refine xN ?_)); clear H; intro w H))
    refine Do_sadd ?_ (by (try simp only [ByteArray.size_append, byteSize, str_size, List.size_toArray, List.length_cons, List.length_nil]); omega)
    (repeat first | refine goN ?_ | ((try conv => whnf); first | (refine Ar_gate ?_; first | (fail_if_success skip) | refine xA ?_) | (first | refine Do_str_eq ?_ | refine Do_str_ne ?_ | refine DoN_len tok rfl ?_ | refine Eqv_in ?_)) | ((try conv => whnf); (first | (refine St_gate ?_; refine xS ?_) | (refine StN_gate ?_; refine xN ?_)); clear H; intro w H))
    exact ⟨i + 1, ⟨congrArg some (vint (by omega)), congrArg some (congrArg Value.string (accM_snoc (f := id) htk (enH e) g2 hlt).symm), trivial⟩, ⟨⟨by omega, all_up htk hall g1⟩, H⟩, by omega⟩
  · have k3 : ¬ (i : Int) < (e.vals.length : Nat) := k1
    have hie : i = e.vals.length := by omega
    subst hie
    have z3 := hz e.vals.length
    (repeat first | refine goN ?_ | ((try conv => whnf); first | (refine Ar_gate ?_; first | (fail_if_success skip) | refine xA ?_) | (first | refine Do_str_eq ?_ | refine Do_str_ne ?_ | refine DoN_len tok rfl ?_ | refine Eqv_in ?_)) | ((try conv => whnf); (first | (refine St_gate ?_; refine xS ?_) | (refine StN_gate ?_; refine xN ?_)); clear H; intro w H))
    refine Do_sadd ?_ (by (try simp only [ByteArray.size_append, byteSize, str_size, List.size_toArray, List.length_cons, List.length_nil]); omega)
    (repeat first | refine goN ?_ | ((try conv => whnf); first | (refine Ar_gate ?_; first | (fail_if_success skip) | refine xA ?_) | (first | refine Do_str_eq ?_ | refine Do_str_ne ?_ | refine DoN_len tok rfl ?_ | refine Eqv_in ?_)) | ((try conv => whnf); (first | (refine St_gate ?_; refine xS ?_) | (refine StN_gate ?_; refine xN ?_)); clear H; intro w H))
    exact Ret_in ⟨ret_yes2 (by unfold enB manyB; rw [h1, decide_eq_true h2, decide_eq_true h3, all_end hall]; rfl) (by rw [List.take_length, List.map_id]; rfl), H.tail⟩
theorem dSmall (n : Int) (H : Sep w0 w l) : Does Tryz.prog 54 #[.int .i64 n] w fun v w' => v = .bool (smallB n) ∧ Sep w0 w' l := by
  refine Does_intro tok (Tryz.call54 _ _) Tryz.func54 rfl (by rfl) ?_
  by_cases h : -1000000 ≤ n
  · (repeat first | refine goN ?_ | ((try conv => whnf); first | (refine Ar_gate ?_; first | (fail_if_success skip) | refine xA ?_) | (first | refine Do_str_eq ?_ | refine Do_str_ne ?_ | refine DoN_len tok rfl ?_ | refine Eqv_in ?_)) | ((try conv => whnf); (first | (refine St_gate ?_; refine xS ?_) | (refine StN_gate ?_; refine xN ?_)); clear H; intro w H))
    exact Ret_in ⟨by unfold smallB; rw [decide_eq_true h]; rfl, H⟩
  · (repeat first | refine goN ?_ | ((try conv => whnf); first | (refine Ar_gate ?_; first | (fail_if_success skip) | refine xA ?_) | (first | refine Do_str_eq ?_ | refine Do_str_ne ?_ | refine DoN_len tok rfl ?_ | refine Eqv_in ?_)) | ((try conv => whnf); (first | (refine St_gate ?_; refine xS ?_) | (refine StN_gate ?_; refine xN ?_)); clear H; intro w H))
    exact Ret_in ⟨by unfold smallB; rw [decide_eq_false h]; rfl, H⟩
theorem dDecl (d : De) (H : Sep w0 w l) (hs : DeOk w0 d) (hb : deK d ≤ 2000000) : Does Tryz.prog 20 #[deA d] w fun v w' => v = .tuple #[.string (if deB d then deT txt itoaC d else ⟨#[]⟩), .bool (deB d)] ∧ Sep w0 w' l := by
  have hlen := de_len hb
  have hval := de_bulk hb
  have hsE := deE_size (itoa := itoaC) itoaC_size d
  have hns : d.name.size ≤ 2000000 := by unfold deK at hb; omega
  have hts : d.typ.size ≤ 2000000 := by unfold deK at hb; omega
  have hzH : (deH d).size ≤ 2000007 := by unfold deH; simp only [ByteArray.size_append, str_size, List.length_cons, List.length_nil]; omega
  have hsX : ∀ i, (deX txt (d.begins.take i) (deE itoaC d ++ d.typ)).size ≤ 100000000 := fun i => by
    have h1 := deX_size txt_size (d.begins.take i) (deE itoaC d ++ d.typ)
    have h2 := sum_take bulk d.begins i
    rw [ByteArray.size_append] at h1
    unfold deK at hb
    omega
  have hsv : Src w0 d.a d.begins.length 6 (d.begins.flatMap exV) := hs.1
  refine Does_intro tok (Tryz.call20 _ _) Tryz.func20 rfl (by rfl) ?_
  (repeat first | refine goN ?_ | ((try conv => whnf); first | (refine Ar_gate ?_; first | (fail_if_success skip) | refine xA ?_) | (first | refine Do_str_eq ?_ | refine Do_str_ne ?_ | refine DoN_len tok rfl ?_ | refine Eqv_in ?_)) | ((try conv => whnf); (first | (refine St_gate ?_; refine xS ?_) | (refine StN_gate ?_; refine xN ?_)); clear H; intro w H))
  (refine Nw_sep H ?_; clear H; intro xb w H; (try simp only [Value.cells, List.toList_toArray, List.append_nil, List.cons_append, List.nil_append] at H))
  (repeat first | refine goN ?_ | ((try conv => whnf); first | (refine Ar_gate ?_; first | (fail_if_success skip) | refine xA ?_) | (first | refine Do_str_eq ?_ | refine Do_str_ne ?_ | refine DoN_len tok rfl ?_ | refine Eqv_in ?_)) | ((try conv => whnf); (first | (refine St_gate ?_; refine xS ?_) | (refine StN_gate ?_; refine xN ?_)); clear H; intro w H))
  refine Do_sadd ?_ (by (try simp only [ByteArray.size_append, byteSize, str_size, List.size_toArray, List.length_cons, List.length_nil]); omega)
  (repeat first | refine goN ?_ | ((try conv => whnf); first | (refine Ar_gate ?_; first | (fail_if_success skip) | refine xA ?_) | (first | refine Do_str_eq ?_ | refine Do_str_ne ?_ | refine DoN_len tok rfl ?_ | refine Eqv_in ?_)) | ((try conv => whnf); (first | (refine St_gate ?_; refine xS ?_) | (refine StN_gate ?_; refine xN ?_)); clear H; intro w H))
  refine Do_sadd ?_ (by (try simp only [ByteArray.size_append, byteSize, str_size, List.size_toArray, List.length_cons, List.length_nil]); omega)
  (repeat first | refine goN ?_ | ((try conv => whnf); first | (refine Ar_gate ?_; first | (fail_if_success skip) | refine xA ?_) | (first | refine Do_str_eq ?_ | refine Do_str_ne ?_ | refine DoN_len tok rfl ?_ | refine Eqv_in ?_)) | ((try conv => whnf); (first | (refine St_gate ?_; refine xS ?_) | (refine StN_gate ?_; refine xN ?_)); clear H; intro w H))
  by_cases ht : d.typ = (⟨#[]⟩ : ByteArray)
  case' pos =>
    have hE : endsB d = (smallB d.lo && smallB d.hi) := by
      have : endsB d = (decide (-1000000 ≤ d.lo) && decide (-1000000 ≤ d.hi) && decide (d.lo ≤ 1000000) && decide (d.hi ≤ 1000000)) := if_pos ht
      rw [this]
      unfold smallB
      cases decide (-1000000 ≤ d.lo) <;> cases decide (-1000000 ≤ d.hi) <;> cases decide (d.lo ≤ 1000000) <;> cases decide (d.hi ≤ 1000000) <;> rfl
    have hdE : deH d ++ (itoaC d.lo ++ str [46, 46] ++ itoaC d.hi) = deE itoaC d ++ d.typ := by
      have : deE itoaC d = deH d ++ (itoaC d.lo ++ str [46, 46] ++ itoaC d.hi) := if_pos ht
      rw [this, ht]
      exact (ByteArray.append_empty).symm
    have z1 := itoaC_size d.lo
    have z2 := itoaC_size d.hi
    (repeat first | refine goN ?_ | ((try conv => whnf); first | (refine Ar_gate ?_; first | (fail_if_success skip) | refine xA ?_) | (first | refine Do_str_eq ?_ | refine Do_str_ne ?_ | refine DoN_len tok rfl ?_ | refine Eqv_in ?_)) | ((try conv => whnf); (first | (refine St_gate ?_; refine xS ?_) | (refine StN_gate ?_; refine xN ?_)); clear H; intro w H))
    refine Call_of (dSmall d.lo H) ?_
    clear H
    intro rv w hR
    have H := hR.2
    have hrv := hR.1
    clear hR
    by_cases e1 : smallB d.lo = true
    case neg =>
      have e1 : smallB d.lo = false := by simpa using e1
      rw [e1] at hrv
      subst hrv
      (repeat first | refine goN ?_ | ((try conv => whnf); first | (refine Ar_gate ?_; first | (fail_if_success skip) | refine xA ?_) | (first | refine Do_str_eq ?_ | refine Do_str_ne ?_ | refine DoN_len tok rfl ?_ | refine Eqv_in ?_)) | ((try conv => whnf); (first | (refine St_gate ?_; refine xS ?_) | (refine StN_gate ?_; refine xN ?_)); clear H; intro w H))
      exact Ret_in ⟨ret_no2 (by unfold deB; rw [hE, e1]; rfl), H.tail⟩
    rw [e1] at hrv
    subst hrv
    (repeat first | refine goN ?_ | ((try conv => whnf); first | (refine Ar_gate ?_; first | (fail_if_success skip) | refine xA ?_) | (first | refine Do_str_eq ?_ | refine Do_str_ne ?_ | refine DoN_len tok rfl ?_ | refine Eqv_in ?_)) | ((try conv => whnf); (first | (refine St_gate ?_; refine xS ?_) | (refine StN_gate ?_; refine xN ?_)); clear H; intro w H))
    refine Call_of (dSmall d.hi H) ?_
    clear H
    intro rv w hR
    have H := hR.2
    have hrv := hR.1
    clear hR
    by_cases e2 : smallB d.hi = true
    case neg =>
      have e2 : smallB d.hi = false := by simpa using e2
      rw [e2] at hrv
      subst hrv
      (repeat first | refine goN ?_ | ((try conv => whnf); first | (refine Ar_gate ?_; first | (fail_if_success skip) | refine xA ?_) | (first | refine Do_str_eq ?_ | refine Do_str_ne ?_ | refine DoN_len tok rfl ?_ | refine Eqv_in ?_)) | ((try conv => whnf); (first | (refine St_gate ?_; refine xS ?_) | (refine StN_gate ?_; refine xN ?_)); clear H; intro w H))
      exact Ret_in ⟨ret_no2 (by unfold deB; rw [hE, e2, Bool.and_false]; rfl), H.tail⟩
    rw [e2] at hrv
    subst hrv
    have hends : endsB d = true := by rw [hE, e1, e2]; rfl
    have e3 : -1000000 ≤ d.lo ∧ d.lo ≤ 1000000 := by unfold smallB at e1; simpa using e1
    have e4 : -1000000 ≤ d.hi ∧ d.hi ≤ 1000000 := by unfold smallB at e2; simpa using e2
    (repeat first | refine goN ?_ | ((try conv => whnf); first | (refine Ar_gate ?_; first | (fail_if_success skip) | refine xA ?_) | (first | refine Do_str_eq ?_ | refine Do_str_ne ?_ | refine DoN_len tok rfl ?_ | refine Eqv_in ?_)) | ((try conv => whnf); (first | (refine St_gate ?_; refine xS ?_) | (refine StN_gate ?_; refine xN ?_)); clear H; intro w H))
    refine Draw_intro mixed [0, 1, 2, 5, 6, 3, 4, 7, 8, 9, 10] (by decide +kernel) (fun w _ fd => ?_); replace H := H.fr fd; clear fd
    (repeat first | refine goN ?_ | ((try conv => whnf); first | (refine Ar_gate ?_; first | (fail_if_success skip) | refine xA ?_) | (first | refine Do_str_eq ?_ | refine Do_str_ne ?_ | refine DoN_len tok rfl ?_ | refine Eqv_in ?_)) | ((try conv => whnf); (first | (refine St_gate ?_; refine xS ?_) | (refine StN_gate ?_; refine xN ?_)); clear H; intro w H))
    refine Call_of (dDec H e3.1 e3.2) ?_
    clear H
    rintro _ w ⟨rfl, H⟩
    (repeat first | refine goN ?_ | ((try conv => whnf); first | (refine Ar_gate ?_; first | (fail_if_success skip) | refine xA ?_) | (first | refine Do_str_eq ?_ | refine Do_str_ne ?_ | refine DoN_len tok rfl ?_ | refine Eqv_in ?_)) | ((try conv => whnf); (first | (refine St_gate ?_; refine xS ?_) | (refine StN_gate ?_; refine xN ?_)); clear H; intro w H))
    refine DoS_sadd (fun J1 hJ1 => ?_) (by (try simp only [ByteArray.size_append, byteSize, str_size, List.size_toArray, List.length_cons, List.length_nil]); omega)
    (repeat first | refine goN ?_ | ((try conv => whnf); first | (refine Ar_gate ?_; first | (fail_if_success skip) | refine xA ?_) | (first | refine Do_str_eq ?_ | refine Do_str_ne ?_ | refine DoN_len tok rfl ?_ | refine Eqv_in ?_)) | ((try conv => whnf); (first | (refine St_gate ?_; refine xS ?_) | (refine StN_gate ?_; refine xN ?_)); clear H; intro w H))
    refine Call_of (dDec H e4.1 e4.2) ?_
    clear H
    rintro _ w ⟨rfl, H⟩
    (repeat first | refine goN ?_ | ((try conv => whnf); first | (refine Ar_gate ?_; first | (fail_if_success skip) | refine xA ?_) | (first | refine Do_str_eq ?_ | refine Do_str_ne ?_ | refine DoN_len tok rfl ?_ | refine Eqv_in ?_)) | ((try conv => whnf); (first | (refine St_gate ?_; refine xS ?_) | (refine StN_gate ?_; refine xN ?_)); clear H; intro w H))
    (repeat (refine Kept_gate ?_; refine ⟨hJ1 _, ?_⟩; (repeat first | refine goN ?_ | ((try conv => whnf); first | (refine Ar_gate ?_; first | (fail_if_success skip) | refine xA ?_) | (first | refine Do_str_eq ?_ | refine Do_str_ne ?_ | refine DoN_len tok rfl ?_ | refine Eqv_in ?_)) | ((try conv => whnf); (first | (refine St_gate ?_; refine xS ?_) | (refine StN_gate ?_; refine xN ?_)); clear H; intro w H))))
    refine DoS_sadd (fun J2 hJ2 => ?_) (by (try simp only [ByteArray.size_append, byteSize, str_size, List.size_toArray, List.length_cons, List.length_nil]); omega)
    (repeat first | refine goN ?_ | ((try conv => whnf); first | (refine Ar_gate ?_; first | (fail_if_success skip) | refine xA ?_) | (first | refine Do_str_eq ?_ | refine Do_str_ne ?_ | refine DoN_len tok rfl ?_ | refine Eqv_in ?_)) | ((try conv => whnf); (first | (refine St_gate ?_; refine xS ?_) | (refine StN_gate ?_; refine xN ?_)); clear H; intro w H))
    (repeat (refine Kept_gate ?_; (first | refine ⟨hJ1 _, ?_⟩ | refine ⟨hJ2 _, ?_⟩); (repeat first | refine goN ?_ | ((try conv => whnf); first | (refine Ar_gate ?_; first | (fail_if_success skip) | refine xA ?_) | (first | refine Do_str_eq ?_ | refine Do_str_ne ?_ | refine DoN_len tok rfl ?_ | refine Eqv_in ?_)) | ((try conv => whnf); (first | (refine St_gate ?_; refine xS ?_) | (refine StN_gate ?_; refine xN ?_)); clear H; intro w H))))
    refine DoS_sadd (fun J3 hJ3 => ?_) (by (try simp only [ByteArray.size_append, byteSize, str_size, List.size_toArray, List.length_cons, List.length_nil]); omega)
    (repeat first | refine goN ?_ | ((try conv => whnf); first | (refine Ar_gate ?_; first | (fail_if_success skip) | refine xA ?_) | (first | refine Do_str_eq ?_ | refine Do_str_ne ?_ | refine DoN_len tok rfl ?_ | refine Eqv_in ?_)) | ((try conv => whnf); (first | (refine St_gate ?_; refine xS ?_) | (refine StN_gate ?_; refine xN ?_)); clear H; intro w H))
    (repeat (refine Kept_gate ?_; (first | refine ⟨hJ1 _, ?_⟩ | refine ⟨hJ2 _, ?_⟩ | refine ⟨hJ3 _, ?_⟩); (repeat first | refine goN ?_ | ((try conv => whnf); first | (refine Ar_gate ?_; first | (fail_if_success skip) | refine xA ?_) | (first | refine Do_str_eq ?_ | refine Do_str_ne ?_ | refine DoN_len tok rfl ?_ | refine Eqv_in ?_)) | ((try conv => whnf); (first | (refine St_gate ?_; refine xS ?_) | (refine StN_gate ?_; refine xN ?_)); clear H; intro w H))))
  case' neg =>
    have hE : endsB d = (decide (d.lo = 0) && decide (d.hi = 0) && (decide (d.typ = boolS) || nameB d.typ)) := if_neg ht
    have hdE : deH d ++ d.typ = deE itoaC d ++ d.typ := by
      have : deE itoaC d = deH d := if_neg ht
      rw [this]
    by_cases e1 : d.lo = 0
    case neg =>
      (repeat first | refine goN ?_ | ((try conv => whnf); first | (refine Ar_gate ?_; first | (fail_if_success skip) | refine xA ?_) | (first | refine Do_str_eq ?_ | refine Do_str_ne ?_ | refine DoN_len tok rfl ?_ | refine Eqv_in ?_)) | ((try conv => whnf); (first | (refine St_gate ?_; refine xS ?_) | (refine StN_gate ?_; refine xN ?_)); clear H; intro w H))
      exact Ret_in ⟨ret_no2 (by unfold deB; rw [hE, decide_eq_false e1]; rfl), H.tail⟩
    by_cases e2 : d.hi = 0
    case neg =>
      (repeat first | refine goN ?_ | ((try conv => whnf); first | (refine Ar_gate ?_; first | (fail_if_success skip) | refine xA ?_) | (first | refine Do_str_eq ?_ | refine Do_str_ne ?_ | refine DoN_len tok rfl ?_ | refine Eqv_in ?_)) | ((try conv => whnf); (first | (refine St_gate ?_; refine xS ?_) | (refine StN_gate ?_; refine xN ?_)); clear H; intro w H))
      exact Ret_in ⟨ret_no2 (by unfold deB; rw [hE, decide_eq_false e2, Bool.and_false]; rfl), H.tail⟩
    by_cases e3 : d.typ = (⟨#[98, 111, 111, 108]⟩ : ByteArray)
    case' pos =>
      have hends : endsB d = true := by rw [hE, decide_eq_true e1, decide_eq_true e2, decide_eq_true (show d.typ = boolS from e3)]; rfl
      (repeat first | refine goN ?_ | ((try conv => whnf); first | (refine Ar_gate ?_; first | (fail_if_success skip) | refine xA ?_) | (first | refine Do_str_eq ?_ | refine Do_str_ne ?_ | refine DoN_len tok rfl ?_ | refine Eqv_in ?_)) | ((try conv => whnf); (first | (refine St_gate ?_; refine xS ?_) | (refine StN_gate ?_; refine xN ?_)); clear H; intro w H))
      refine Do_sadd ?_ (by (try simp only [ByteArray.size_append, byteSize, str_size, List.size_toArray, List.length_cons, List.length_nil]); omega)
      (repeat first | refine goN ?_ | ((try conv => whnf); first | (refine Ar_gate ?_; first | (fail_if_success skip) | refine xA ?_) | (first | refine Do_str_eq ?_ | refine Do_str_ne ?_ | refine DoN_len tok rfl ?_ | refine Eqv_in ?_)) | ((try conv => whnf); (first | (refine St_gate ?_; refine xS ?_) | (refine StN_gate ?_; refine xN ?_)); clear H; intro w H))
    case' neg =>
      (repeat first | refine goN ?_ | ((try conv => whnf); first | (refine Ar_gate ?_; first | (fail_if_success skip) | refine xA ?_) | (first | refine Do_str_eq ?_ | refine Do_str_ne ?_ | refine DoN_len tok rfl ?_ | refine Eqv_in ?_)) | ((try conv => whnf); (first | (refine St_gate ?_; refine xS ?_) | (refine StN_gate ?_; refine xN ?_)); clear H; intro w H))
      refine Call_of (dName d.typ hts H) ?_
      clear H
      intro rv w hR
      have H := hR.2
      have hrv := hR.1
      clear hR
      by_cases e4 : nameB d.typ = true
      case neg =>
        have e4 : nameB d.typ = false := by simpa using e4
        rw [e4] at hrv
        subst hrv
        (repeat first | refine goN ?_ | ((try conv => whnf); first | (refine Ar_gate ?_; first | (fail_if_success skip) | refine xA ?_) | (first | refine Do_str_eq ?_ | refine Do_str_ne ?_ | refine DoN_len tok rfl ?_ | refine Eqv_in ?_)) | ((try conv => whnf); (first | (refine St_gate ?_; refine xS ?_) | (refine StN_gate ?_; refine xN ?_)); clear H; intro w H))
        exact Ret_in ⟨ret_no2 (by unfold deB; rw [hE, e4, decide_eq_false (show ¬ d.typ = boolS from e3), Bool.or_false, Bool.and_false]; rfl), H.tail⟩
      rw [e4] at hrv
      subst hrv
      have hends : endsB d = true := by rw [hE, decide_eq_true e1, decide_eq_true e2, e4, Bool.or_true]; rfl
      (repeat first | refine goN ?_ | ((try conv => whnf); first | (refine Ar_gate ?_; first | (fail_if_success skip) | refine xA ?_) | (first | refine Do_str_eq ?_ | refine Do_str_ne ?_ | refine DoN_len tok rfl ?_ | refine Eqv_in ?_)) | ((try conv => whnf); (first | (refine St_gate ?_; refine xS ?_) | (refine StN_gate ?_; refine xN ?_)); clear H; intro w H))
      refine Do_sadd ?_ (by (try simp only [ByteArray.size_append, byteSize, str_size, List.size_toArray, List.length_cons, List.length_nil]); omega)
      (repeat first | refine goN ?_ | ((try conv => whnf); first | (refine Ar_gate ?_; first | (fail_if_success skip) | refine xA ?_) | (first | refine Do_str_eq ?_ | refine Do_str_ne ?_ | refine DoN_len tok rfl ?_ | refine Eqv_in ?_)) | ((try conv => whnf); (first | (refine St_gate ?_; refine xS ?_) | (refine StN_gate ?_; refine xN ?_)); clear H; intro w H))
  all_goals
    by_cases h2 : d.begins.length ≤ 1
    case neg =>
      (repeat first | refine goN ?_ | ((try conv => whnf); first | (refine Ar_gate ?_; first | (fail_if_success skip) | refine xA ?_) | (first | refine Do_str_eq ?_ | refine Do_str_ne ?_ | refine DoN_len tok rfl ?_ | refine Eqv_in ?_)) | ((try conv => whnf); (first | (refine St_gate ?_; refine xS ?_) | (refine StN_gate ?_; refine xN ?_)); clear H; intro w H))
      exact Ret_in ⟨ret_no2 (by unfold deB; rw [decide_eq_false h2, Bool.and_false]; rfl), H.tail⟩
    (repeat first | refine goN ?_ | ((try conv => whnf); first | (refine Ar_gate ?_; first | (fail_if_success skip) | refine xA ?_) | (first | refine Do_str_eq ?_ | refine Do_str_ne ?_ | refine DoN_len tok rfl ?_ | refine Eqv_in ?_)) | ((try conv => whnf); (first | (refine St_gate ?_; refine xS ?_) | (refine StN_gate ?_; refine xN ?_)); clear H; intro w H))
    refine Call_of (dName d.name hns H) ?_
    clear H
    intro rv w hR
    have H := hR.2
    have hrv := hR.1
    clear hR
    by_cases h1 : nameB d.name = true
    case neg =>
      have h1 : nameB d.name = false := by simpa using h1
      rw [h1] at hrv
      subst hrv
      (repeat first | refine goN ?_ | ((try conv => whnf); first | (refine Ar_gate ?_; first | (fail_if_success skip) | refine xA ?_) | (first | refine Do_str_eq ?_ | refine Do_str_ne ?_ | refine DoN_len tok rfl ?_ | refine Eqv_in ?_)) | ((try conv => whnf); (first | (refine St_gate ?_; refine xS ?_) | (refine StN_gate ?_; refine xN ?_)); clear H; intro w H))
      exact Ret_in ⟨ret_no2 (by unfold deB; rw [h1, Bool.and_false]; rfl), H.tail⟩
    rw [h1] at hrv
    subst hrv
    (repeat first | refine goN ?_ | ((try conv => whnf); first | (refine Ar_gate ?_; first | (fail_if_success skip) | refine xA ?_) | (first | refine Do_str_eq ?_ | refine Do_str_ne ?_ | refine DoN_len tok rfl ?_ | refine Eqv_in ?_)) | ((try conv => whnf); (first | (refine St_gate ?_; refine xS ?_) | (refine StN_gate ?_; refine xN ?_)); clear H; intro w H))
    refine Loop_intro (fun i : Nat => [(70, .int .i64 (i : Int)), (4, .string (deX txt (d.begins.take i) (deE itoaC d ++ d.typ)))]) (fun i w => (i ≤ d.begins.length ∧ (d.begins.take i).all writB = true) ∧ Sep w0 w (cellsR xb 55 (deV d) :: l)) (fun i => d.begins.length - i)
      0 ⟨rfl, congrArg some (congrArg Value.string (hdE)), trivial⟩ ⟨⟨Nat.zero_le _, rfl⟩, H⟩ ?_
    clear H
    rintro i w ⟨⟨hi, hall⟩, H⟩
    refine Br_dec (fun k1 => ?_) (fun k1 => ?_)
    · have k3 : (i : Int) < (d.begins.length : Nat) := k1
      have hlt : i < d.begins.length := by omega
      refine Exists.elim (⟨_, List.getElem?_eq_getElem hlt⟩ : ∃ u, d.begins[i]? = some u) fun k hx => ?_
      have htk : d.begins.take (i + 1) = d.begins.take i ++ [k] := by rw [List.take_add_one, hx]; rfl
      have hmem := List.mem_of_getElem? hx
      have hok := H.rd hsv
      have hrow := rowPart (f := exV) (sz := 6) exV_len hx
      refine Exists.elim (hok.addr (by rw [rowLen exV_len]; omega)) fun b hb1 => Exists.elim hb1 fun o ho => ?_
      have hkz := hval k hmem
      have z3 := hsX i
      have z4 := txt_size k
      have ho2 : Src w (some ⟨b, o, none⟩) d.begins.length 6 (d.begins.flatMap exV) := by rw [← ho]; exact hok
      rw [ho]
      (repeat first | refine goN ?_ | ((try conv => whnf); first | (refine Ar_gate ?_; first | (fail_if_success skip) | refine xA ?_) | (first | refine Do_str_eq ?_ | refine Do_str_ne ?_ | refine DoN_len tok rfl ?_ | refine Eqv_in ?_)) | ((try conv => whnf); (first | (refine St_gate ?_; refine xS ?_) | (refine StN_gate ?_; refine xN ?_)); clear H; intro w H))
      refine Ix_in i rfl hlt ?_
      refine LdN_src ho2 (vs := [.int .i64 k.op, .int .i64 k.num, .string k.name, .slice k.at_ k.kids.length k.cap, .int .i64 k.line, .int .i64 k.col]) hrow rfl ?_
      clear ho2 hok
      (repeat first | refine goN ?_ | ((try conv => whnf); first | (refine Ar_gate ?_; first | (fail_if_success skip) | refine xA ?_) | (first | refine Do_str_eq ?_ | refine Do_str_ne ?_ | refine DoN_len tok rfl ?_ | refine Eqv_in ?_)) | ((try conv => whnf); (first | (refine St_gate ?_; refine xS ?_) | (refine StN_gate ?_; refine xN ?_)); clear H; intro w H))
      (refine Nw_sep H ?_; clear H; intro kb w H; (try simp only [Value.cells, List.toList_toArray, List.append_nil, List.cons_append, List.nil_append] at H))
      (repeat first | refine goN ?_ | ((try conv => whnf); first | (refine Ar_gate ?_; first | (fail_if_success skip) | refine xA ?_) | (first | refine Do_str_eq ?_ | refine Do_str_ne ?_ | refine DoN_len tok rfl ?_ | refine Eqv_in ?_)) | ((try conv => whnf); (first | (refine St_gate ?_; refine xS ?_) | (refine StN_gate ?_; refine xN ?_)); clear H; intro w H))
      refine Call_of (dWritable k H (hs.2 k hmem) hkz) ?_
      clear H
      intro rv w hR
      have H := hR.2
      have hrv := hR.1
      clear hR
      by_cases g1 : writB k = true
      case neg =>
        have g1 : writB k = false := by simpa using g1
        rw [g1] at hrv
        subst hrv
        (repeat first | refine goN ?_ | ((try conv => whnf); first | (refine Ar_gate ?_; first | (fail_if_success skip) | refine xA ?_) | (first | refine Do_str_eq ?_ | refine Do_str_ne ?_ | refine DoN_len tok rfl ?_ | refine Eqv_in ?_)) | ((try conv => whnf); (first | (refine St_gate ?_; refine xS ?_) | (refine StN_gate ?_; refine xN ?_)); clear H; intro w H))
        exact Ret_in ⟨ret_no2 (by unfold deB; rw [all_no hmem g1, Bool.and_false]), H.tail.tail⟩
      rw [g1] at hrv
      subst hrv
      (repeat first | refine goN ?_ | ((try conv => whnf); first | (refine Ar_gate ?_; first | (fail_if_success skip) | refine xA ?_) | (first | refine Do_str_eq ?_ | refine Do_str_ne ?_ | refine DoN_len tok rfl ?_ | refine Eqv_in ?_)) | ((try conv => whnf); (first | (refine St_gate ?_; refine xS ?_) | (refine StN_gate ?_; refine xN ?_)); clear H; intro w H))
      refine Call_of (dText k H (hs.2 k hmem) hkz (writ_shape g1)) ?_
      clear H
      rintro _ w ⟨rfl, H⟩
      (repeat first | refine goN ?_ | ((try conv => whnf); first | (refine Ar_gate ?_; first | (fail_if_success skip) | refine xA ?_) | (first | refine Do_str_eq ?_ | refine Do_str_ne ?_ | refine DoN_len tok rfl ?_ | refine Eqv_in ?_)) | ((try conv => whnf); (first | (refine St_gate ?_; refine xS ?_) | (refine StN_gate ?_; refine xN ?_)); clear H; intro w H))
      refine Do_sadd ?_ (by (try simp only [ByteArray.size_append, byteSize, str_size, List.size_toArray, List.length_cons, List.length_nil]); omega)
      (repeat first | refine goN ?_ | ((try conv => whnf); first | (refine Ar_gate ?_; first | (fail_if_success skip) | refine xA ?_) | (first | refine Do_str_eq ?_ | refine Do_str_ne ?_ | refine DoN_len tok rfl ?_ | refine Eqv_in ?_)) | ((try conv => whnf); (first | (refine St_gate ?_; refine xS ?_) | (refine StN_gate ?_; refine xN ?_)); clear H; intro w H))
      refine Do_sadd ?_ (by (try simp only [ByteArray.size_append, byteSize, str_size, List.size_toArray, List.length_cons, List.length_nil]); omega)
      (repeat first | refine goN ?_ | ((try conv => whnf); first | (refine Ar_gate ?_; first | (fail_if_success skip) | refine xA ?_) | (first | refine Do_str_eq ?_ | refine Do_str_ne ?_ | refine DoN_len tok rfl ?_ | refine Eqv_in ?_)) | ((try conv => whnf); (first | (refine St_gate ?_; refine xS ?_) | (refine StN_gate ?_; refine xN ?_)); clear H; intro w H))
      exact ⟨i + 1, ⟨congrArg some (vint (by omega)), congrArg some (congrArg Value.string (deX_take htk).symm), trivial⟩, ⟨⟨by omega, all_up htk hall g1⟩, H.tail⟩, by omega⟩
    · have k3 : ¬ (i : Int) < (d.begins.length : Nat) := k1
      have hie : i = d.begins.length := by omega
      subst hie
      have z3 := hsX d.begins.length
      (repeat first | refine goN ?_ | ((try conv => whnf); first | (refine Ar_gate ?_; first | (fail_if_success skip) | refine xA ?_) | (first | refine Do_str_eq ?_ | refine Do_str_ne ?_ | refine DoN_len tok rfl ?_ | refine Eqv_in ?_)) | ((try conv => whnf); (first | (refine St_gate ?_; refine xS ?_) | (refine StN_gate ?_; refine xN ?_)); clear H; intro w H))
      refine Do_sadd ?_ (by (try simp only [ByteArray.size_append, byteSize, str_size, List.size_toArray, List.length_cons, List.length_nil]); omega)
      (repeat first | refine goN ?_ | ((try conv => whnf); first | (refine Ar_gate ?_; first | (fail_if_success skip) | refine xA ?_) | (first | refine Do_str_eq ?_ | refine Do_str_ne ?_ | refine DoN_len tok rfl ?_ | refine Eqv_in ?_)) | ((try conv => whnf); (first | (refine St_gate ?_; refine xS ?_) | (refine StN_gate ?_; refine xN ?_)); clear H; intro w H))
      exact Ret_in ⟨ret_yes2 (by unfold deB; rw [hends, h1, decide_eq_true h2, all_end hall]; rfl) (by rw [List.take_length]; rfl), H.tail⟩
theorem dRule (r : Ru) (H : Sep w0 w l) (hs : RuOk w0 r) (hb : ruK r ≤ 2000000) : Does Tryz.prog 22 #[ruA r] w fun v w' => v = .tuple #[.string (if ruB r then ruT txt r else ⟨#[]⟩), .bool (ruB r)] ∧ Sep w0 w' l := by
  have hlen := ru_len hb
  have hwb := ru_when hb
  have hwz := txt_size r.when_
  have hval : ∀ a ∈ r.acts, asK a ≤ 2000000 := fun v hv => by
    have := sum_mem (g := asK) hv
    unfold ruK at hb; omega
  have hz : ∀ i, (joinS ((r.acts.take i).map (asT txt))).size ≤ 42000000 := fun i => by
    have h1 := acts_size txt_size (r.acts.take i)
    have h3 := sum_take asK r.acts i
    unfold ruK at hb
    omega
  have hzH : (ruH r).size ≤ 40000020 := by unfold ruH; simp only [ByteArray.size_append, str_size, List.length_cons, List.length_nil]; omega
  have hsv : Src w0 r.a r.acts.length 9 (r.acts.flatMap asV) := hs.2.1
  refine Does_intro tok (Tryz.call22 _ _) Tryz.func22 rfl (by rfl) ?_
  (repeat first | refine goN ?_ | ((try conv => whnf); first | (refine Ar_gate ?_; first | (fail_if_success skip) | refine xA ?_) | (first | refine Do_str_eq ?_ | refine Do_str_ne ?_ | refine DoN_len tok rfl ?_ | refine Eqv_in ?_)) | ((try conv => whnf); (first | (refine St_gate ?_; refine xS ?_) | (refine StN_gate ?_; refine xN ?_)); clear H; intro w H))
  (refine Nw_sep H ?_; clear H; intro xb w H; (try simp only [Value.cells, List.toList_toArray, List.append_nil, List.cons_append, List.nil_append] at H))
  (repeat first | refine goN ?_ | ((try conv => whnf); first | (refine Ar_gate ?_; first | (fail_if_success skip) | refine xA ?_) | (first | refine Do_str_eq ?_ | refine Do_str_ne ?_ | refine DoN_len tok rfl ?_ | refine Eqv_in ?_)) | ((try conv => whnf); (first | (refine St_gate ?_; refine xS ?_) | (refine StN_gate ?_; refine xN ?_)); clear H; intro w H))
  refine LdN_src (o := 0) (j := 0) (H.srcCM 1 7 (.head _) rfl (by decide)) (vs := [.int .i64 r.when_.op, .int .i64 r.when_.num, .string r.when_.name, .slice r.when_.at_ r.when_.kids.length r.when_.cap, .int .i64 r.when_.line, .int .i64 r.when_.col]) rfl rfl ?_
  (repeat first | refine goN ?_ | ((try conv => whnf); first | (refine Ar_gate ?_; first | (fail_if_success skip) | refine xA ?_) | (first | refine Do_str_eq ?_ | refine Do_str_ne ?_ | refine DoN_len tok rfl ?_ | refine Eqv_in ?_)) | ((try conv => whnf); (first | (refine St_gate ?_; refine xS ?_) | (refine StN_gate ?_; refine xN ?_)); clear H; intro w H))
  refine Call_of (dWritable r.when_ H hs.1 hwb) ?_
  clear H
  intro rv w hR
  have H := hR.2
  have hrv := hR.1
  clear hR
  by_cases h1 : writB r.when_ = true
  case neg =>
    have h1 : writB r.when_ = false := by simpa using h1
    rw [h1] at hrv
    subst hrv
    (repeat first | refine goN ?_ | ((try conv => whnf); first | (refine Ar_gate ?_; first | (fail_if_success skip) | refine xA ?_) | (first | refine Do_str_eq ?_ | refine Do_str_ne ?_ | refine DoN_len tok rfl ?_ | refine Eqv_in ?_)) | ((try conv => whnf); (first | (refine St_gate ?_; refine xS ?_) | (refine StN_gate ?_; refine xN ?_)); clear H; intro w H))
    exact Ret_in ⟨ret_no2 (by unfold ruB; rw [h1]; rfl), H.tail⟩
  rw [h1] at hrv
  subst hrv
  by_cases h2 : 1 ≤ r.acts.length
  case neg =>
    (repeat first | refine goN ?_ | ((try conv => whnf); first | (refine Ar_gate ?_; first | (fail_if_success skip) | refine xA ?_) | (first | refine Do_str_eq ?_ | refine Do_str_ne ?_ | refine DoN_len tok rfl ?_ | refine Eqv_in ?_)) | ((try conv => whnf); (first | (refine St_gate ?_; refine xS ?_) | (refine StN_gate ?_; refine xN ?_)); clear H; intro w H))
    exact Ret_in ⟨ret_no2 (by unfold ruB manyB; rw [decide_eq_false h2]; simp), H.tail⟩
  by_cases h3 : r.acts.length ≤ 32
  case neg =>
    (repeat first | refine goN ?_ | ((try conv => whnf); first | (refine Ar_gate ?_; first | (fail_if_success skip) | refine xA ?_) | (first | refine Do_str_eq ?_ | refine Do_str_ne ?_ | refine DoN_len tok rfl ?_ | refine Eqv_in ?_)) | ((try conv => whnf); (first | (refine St_gate ?_; refine xS ?_) | (refine StN_gate ?_; refine xN ?_)); clear H; intro w H))
    exact Ret_in ⟨ret_no2 (by unfold ruB manyB; rw [decide_eq_false h3]; simp), H.tail⟩
  (repeat first | refine goN ?_ | ((try conv => whnf); first | (refine Ar_gate ?_; first | (fail_if_success skip) | refine xA ?_) | (first | refine Do_str_eq ?_ | refine Do_str_ne ?_ | refine DoN_len tok rfl ?_ | refine Eqv_in ?_)) | ((try conv => whnf); (first | (refine St_gate ?_; refine xS ?_) | (refine StN_gate ?_; refine xN ?_)); clear H; intro w H))
  refine LdN_src (o := 0) (j := 0) (H.srcCM 1 7 (.head _) rfl (by decide)) (vs := [.int .i64 r.when_.op, .int .i64 r.when_.num, .string r.when_.name, .slice r.when_.at_ r.when_.kids.length r.when_.cap, .int .i64 r.when_.line, .int .i64 r.when_.col]) rfl rfl ?_
  (repeat first | refine goN ?_ | ((try conv => whnf); first | (refine Ar_gate ?_; first | (fail_if_success skip) | refine xA ?_) | (first | refine Do_str_eq ?_ | refine Do_str_ne ?_ | refine DoN_len tok rfl ?_ | refine Eqv_in ?_)) | ((try conv => whnf); (first | (refine St_gate ?_; refine xS ?_) | (refine StN_gate ?_; refine xN ?_)); clear H; intro w H))
  refine Call_of (dText r.when_ H hs.1 hwb (writ_shape h1)) ?_
  clear H
  rintro _ w ⟨rfl, H⟩
  (repeat first | refine goN ?_ | ((try conv => whnf); first | (refine Ar_gate ?_; first | (fail_if_success skip) | refine xA ?_) | (first | refine Do_str_eq ?_ | refine Do_str_ne ?_ | refine DoN_len tok rfl ?_ | refine Eqv_in ?_)) | ((try conv => whnf); (first | (refine St_gate ?_; refine xS ?_) | (refine StN_gate ?_; refine xN ?_)); clear H; intro w H))
  refine Do_sadd ?_ (by (try simp only [ByteArray.size_append, byteSize, str_size, List.size_toArray, List.length_cons, List.length_nil]); omega)
  (repeat first | refine goN ?_ | ((try conv => whnf); first | (refine Ar_gate ?_; first | (fail_if_success skip) | refine xA ?_) | (first | refine Do_str_eq ?_ | refine Do_str_ne ?_ | refine DoN_len tok rfl ?_ | refine Eqv_in ?_)) | ((try conv => whnf); (first | (refine St_gate ?_; refine xS ?_) | (refine StN_gate ?_; refine xN ?_)); clear H; intro w H))
  refine Do_sadd ?_ (by (try simp only [ByteArray.size_append, byteSize, str_size, List.size_toArray, List.length_cons, List.length_nil]); omega)
  (repeat first | refine goN ?_ | ((try conv => whnf); first | (refine Ar_gate ?_; first | (fail_if_success skip) | refine xA ?_) | (first | refine Do_str_eq ?_ | refine Do_str_ne ?_ | refine DoN_len tok rfl ?_ | refine Eqv_in ?_)) | ((try conv => whnf); (first | (refine St_gate ?_; refine xS ?_) | (refine StN_gate ?_; refine xN ?_)); clear H; intro w H))
  refine Loop_intro (fun i : Nat => [(31, .int .i64 (i : Int)), (4, .string (ruH r ++ joinS ((r.acts.take i).map (asT txt))))]) (fun i w => (i ≤ r.acts.length ∧ (r.acts.take i).all asB = true) ∧ Sep w0 w (cellsR xb 62 (ruV r) :: l)) (fun i => r.acts.length - i)
    0 ⟨rfl, congrArg some (congrArg Value.string (accS_nil (ruH r))), trivial⟩ ⟨⟨Nat.zero_le _, rfl⟩, H⟩ ?_
  clear H
  rintro i w ⟨⟨hi, hall⟩, H⟩
  refine Br_dec (fun k1 => ?_) (fun k1 => ?_)
  · have k3 : (i : Int) < (r.acts.length : Nat) := k1
    have hlt : i < r.acts.length := by omega
    refine Exists.elim (⟨_, List.getElem?_eq_getElem hlt⟩ : ∃ u, r.acts[i]? = some u) fun k hx => ?_
    have htk : r.acts.take (i + 1) = r.acts.take i ++ [k] := by rw [List.take_add_one, hx]; rfl
    have hmem := List.mem_of_getElem? hx
    have hok := H.rd hsv
    have hrow := rowPart (f := asV) (sz := 9) asV_len hx
    refine Exists.elim (hok.addr (by rw [rowLen asV_len]; omega)) fun b hb1 => Exists.elim hb1 fun o ho => ?_
    have hkz := hval k hmem
    have hkn : k.name.size ≤ 2000000 := by unfold asK at hkz; omega
    have hkb : bulk k.to ≤ 2000000 := by unfold asK at hkz; omega
    have z3 := hz i
    have z4 := txt_size k.to
    have ho2 : Src w (some ⟨b, o, none⟩) r.acts.length 9 (r.acts.flatMap asV) := by rw [← ho]; exact hok
    rw [ho]
    (repeat first | refine goN ?_ | ((try conv => whnf); first | (refine Ar_gate ?_; first | (fail_if_success skip) | refine xA ?_) | (first | refine Do_str_eq ?_ | refine Do_str_ne ?_ | refine DoN_len tok rfl ?_ | refine Eqv_in ?_)) | ((try conv => whnf); (first | (refine St_gate ?_; refine xS ?_) | (refine StN_gate ?_; refine xN ?_)); clear H; intro w H))
    refine Ix_in i rfl hlt ?_
    refine LdN_src ho2 (vs := [.string k.name, .int .i64 k.to.op, .int .i64 k.to.num, .string k.to.name, .slice k.to.at_ k.to.kids.length k.to.cap, .int .i64 k.to.line, .int .i64 k.to.col, .int .i64 k.line, .int .i64 k.col]) hrow rfl ?_
    clear ho2 hok
    (repeat first | refine goN ?_ | ((try conv => whnf); first | (refine Ar_gate ?_; first | (fail_if_success skip) | refine xA ?_) | (first | refine Do_str_eq ?_ | refine Do_str_ne ?_ | refine DoN_len tok rfl ?_ | refine Eqv_in ?_)) | ((try conv => whnf); (first | (refine St_gate ?_; refine xS ?_) | (refine StN_gate ?_; refine xN ?_)); clear H; intro w H))
    (refine Nw_sep H ?_; clear H; intro kb w H; (try simp only [Value.cells, List.toList_toArray, List.append_nil, List.cons_append, List.nil_append] at H))
    (repeat first | refine goN ?_ | ((try conv => whnf); first | (refine Ar_gate ?_; first | (fail_if_success skip) | refine xA ?_) | (first | refine Do_str_eq ?_ | refine Do_str_ne ?_ | refine DoN_len tok rfl ?_ | refine Eqv_in ?_)) | ((try conv => whnf); (first | (refine St_gate ?_; refine xS ?_) | (refine StN_gate ?_; refine xN ?_)); clear H; intro w H))
    refine Call_of (dName k.name hkn H) ?_
    clear H
    intro rv w hR
    have H := hR.2
    have hrv := hR.1
    clear hR
    by_cases g1 : nameB k.name = true
    case neg =>
      have g1 : nameB k.name = false := by simpa using g1
      rw [g1] at hrv
      subst hrv
      (repeat first | refine goN ?_ | ((try conv => whnf); first | (refine Ar_gate ?_; first | (fail_if_success skip) | refine xA ?_) | (first | refine Do_str_eq ?_ | refine Do_str_ne ?_ | refine DoN_len tok rfl ?_ | refine Eqv_in ?_)) | ((try conv => whnf); (first | (refine St_gate ?_; refine xS ?_) | (refine StN_gate ?_; refine xN ?_)); clear H; intro w H))
      exact Ret_in ⟨ret_no2 (by unfold ruB; rw [all_no hmem (show asB k = false by unfold asB; rw [g1]; rfl), Bool.and_false]), H.tail.tail⟩
    rw [g1] at hrv
    subst hrv
    (repeat first | refine goN ?_ | ((try conv => whnf); first | (refine Ar_gate ?_; first | (fail_if_success skip) | refine xA ?_) | (first | refine Do_str_eq ?_ | refine Do_str_ne ?_ | refine DoN_len tok rfl ?_ | refine Eqv_in ?_)) | ((try conv => whnf); (first | (refine St_gate ?_; refine xS ?_) | (refine StN_gate ?_; refine xN ?_)); clear H; intro w H))
    refine LdN_src (o := 0) (j := 1) (H.srcCM 1 9 (.head _) rfl (by decide)) (vs := [.int .i64 k.to.op, .int .i64 k.to.num, .string k.to.name, .slice k.to.at_ k.to.kids.length k.to.cap, .int .i64 k.to.line, .int .i64 k.to.col]) rfl rfl ?_
    (repeat first | refine goN ?_ | ((try conv => whnf); first | (refine Ar_gate ?_; first | (fail_if_success skip) | refine xA ?_) | (first | refine Do_str_eq ?_ | refine Do_str_ne ?_ | refine DoN_len tok rfl ?_ | refine Eqv_in ?_)) | ((try conv => whnf); (first | (refine St_gate ?_; refine xS ?_) | (refine StN_gate ?_; refine xN ?_)); clear H; intro w H))
    refine Call_of (dWritable k.to H (hs.2.2 k hmem) hkb) ?_
    clear H
    intro rv w hR
    have H := hR.2
    have hrv := hR.1
    clear hR
    by_cases g4 : writB k.to = true
    case neg =>
      have g4 : writB k.to = false := by simpa using g4
      rw [g4] at hrv
      subst hrv
      (repeat first | refine goN ?_ | ((try conv => whnf); first | (refine Ar_gate ?_; first | (fail_if_success skip) | refine xA ?_) | (first | refine Do_str_eq ?_ | refine Do_str_ne ?_ | refine DoN_len tok rfl ?_ | refine Eqv_in ?_)) | ((try conv => whnf); (first | (refine St_gate ?_; refine xS ?_) | (refine StN_gate ?_; refine xN ?_)); clear H; intro w H))
      exact Ret_in ⟨ret_no2 (by unfold ruB; rw [all_no hmem (show asB k = false by unfold asB; rw [g4, Bool.and_false]), Bool.and_false]), H.tail.tail⟩
    rw [g4] at hrv
    subst hrv
    have g5 : asB k = true := by unfold asB; rw [g1, g4]; rfl
    by_cases g2 : 0 < i
    case neg =>
      have g3 : i = 0 := by omega
      subst g3
      (repeat first | refine goN ?_ | ((try conv => whnf); first | (refine Ar_gate ?_; first | (fail_if_success skip) | refine xA ?_) | (first | refine Do_str_eq ?_ | refine Do_str_ne ?_ | refine DoN_len tok rfl ?_ | refine Eqv_in ?_)) | ((try conv => whnf); (first | (refine St_gate ?_; refine xS ?_) | (refine StN_gate ?_; refine xN ?_)); clear H; intro w H))
      refine Draw_intro mixed [0, 1, 2, 3, 4, 5, 6, 7, 8, 9] (by decide +kernel) (fun w _ fd => ?_); replace H := H.fr fd; clear fd
      (repeat first | refine goN ?_ | ((try conv => whnf); first | (refine Ar_gate ?_; first | (fail_if_success skip) | refine xA ?_) | (first | refine Do_str_eq ?_ | refine Do_str_ne ?_ | refine DoN_len tok rfl ?_ | refine Eqv_in ?_)) | ((try conv => whnf); (first | (refine St_gate ?_; refine xS ?_) | (refine StN_gate ?_; refine xN ?_)); clear H; intro w H))
      refine DoS_sadd (fun J1 hJ1 => ?_) (by (try simp only [ByteArray.size_append, byteSize, str_size, List.size_toArray, List.length_cons, List.length_nil]); omega)
      (repeat first | refine goN ?_ | ((try conv => whnf); first | (refine Ar_gate ?_; first | (fail_if_success skip) | refine xA ?_) | (first | refine Do_str_eq ?_ | refine Do_str_ne ?_ | refine DoN_len tok rfl ?_ | refine Eqv_in ?_)) | ((try conv => whnf); (first | (refine St_gate ?_; refine xS ?_) | (refine StN_gate ?_; refine xN ?_)); clear H; intro w H))
      refine LdN_src (o := 0) (j := 1) (H.srcCM 1 9 (.head _) rfl (by decide)) (vs := [.int .i64 k.to.op, .int .i64 k.to.num, .string k.to.name, .slice k.to.at_ k.to.kids.length k.to.cap, .int .i64 k.to.line, .int .i64 k.to.col]) rfl rfl ?_
      (repeat first | refine goN ?_ | ((try conv => whnf); first | (refine Ar_gate ?_; first | (fail_if_success skip) | refine xA ?_) | (first | refine Do_str_eq ?_ | refine Do_str_ne ?_ | refine DoN_len tok rfl ?_ | refine Eqv_in ?_)) | ((try conv => whnf); (first | (refine St_gate ?_; refine xS ?_) | (refine StN_gate ?_; refine xN ?_)); clear H; intro w H))
      refine Call_of (dText k.to H (hs.2.2 k hmem) hkb (writ_shape g4)) ?_
      clear H
      rintro _ w ⟨rfl, H⟩
      (repeat first | refine goN ?_ | ((try conv => whnf); first | (refine Ar_gate ?_; first | (fail_if_success skip) | refine xA ?_) | (first | refine Do_str_eq ?_ | refine Do_str_ne ?_ | refine DoN_len tok rfl ?_ | refine Eqv_in ?_)) | ((try conv => whnf); (first | (refine St_gate ?_; refine xS ?_) | (refine StN_gate ?_; refine xN ?_)); clear H; intro w H))
      (repeat (refine Kept_gate ?_; refine ⟨hJ1 _, ?_⟩; (repeat first | refine goN ?_ | ((try conv => whnf); first | (refine Ar_gate ?_; first | (fail_if_success skip) | refine xA ?_) | (first | refine Do_str_eq ?_ | refine Do_str_ne ?_ | refine DoN_len tok rfl ?_ | refine Eqv_in ?_)) | ((try conv => whnf); (first | (refine St_gate ?_; refine xS ?_) | (refine StN_gate ?_; refine xN ?_)); clear H; intro w H))))
      refine DoS_sadd (fun J2 hJ2 => ?_) (by (try simp only [ByteArray.size_append, byteSize, str_size, List.size_toArray, List.length_cons, List.length_nil]); omega)
      (repeat first | refine goN ?_ | ((try conv => whnf); first | (refine Ar_gate ?_; first | (fail_if_success skip) | refine xA ?_) | (first | refine Do_str_eq ?_ | refine Do_str_ne ?_ | refine DoN_len tok rfl ?_ | refine Eqv_in ?_)) | ((try conv => whnf); (first | (refine St_gate ?_; refine xS ?_) | (refine StN_gate ?_; refine xN ?_)); clear H; intro w H))
      (repeat (refine Kept_gate ?_; (first | refine ⟨hJ1 _, ?_⟩ | refine ⟨hJ2 _, ?_⟩); (repeat first | refine goN ?_ | ((try conv => whnf); first | (refine Ar_gate ?_; first | (fail_if_success skip) | refine xA ?_) | (first | refine Do_str_eq ?_ | refine Do_str_ne ?_ | refine DoN_len tok rfl ?_ | refine Eqv_in ?_)) | ((try conv => whnf); (first | (refine St_gate ?_; refine xS ?_) | (refine StN_gate ?_; refine xN ?_)); clear H; intro w H))))
      refine DoS_sadd (fun J3 hJ3 => ?_) (by (try simp only [ByteArray.size_append, byteSize, str_size, List.size_toArray, List.length_cons, List.length_nil]); omega)
      (repeat first | refine goN ?_ | ((try conv => whnf); first | (refine Ar_gate ?_; first | (fail_if_success skip) | refine xA ?_) | (first | refine Do_str_eq ?_ | refine Do_str_ne ?_ | refine DoN_len tok rfl ?_ | refine Eqv_in ?_)) | ((try conv => whnf); (first | (refine St_gate ?_; refine xS ?_) | (refine StN_gate ?_; refine xN ?_)); clear H; intro w H))
      (repeat (refine Kept_gate ?_; (first | refine ⟨hJ1 _, ?_⟩ | refine ⟨hJ2 _, ?_⟩ | refine ⟨hJ3 _, ?_⟩); (repeat first | refine goN ?_ | ((try conv => whnf); first | (refine Ar_gate ?_; first | (fail_if_success skip) | refine xA ?_) | (first | refine Do_str_eq ?_ | refine Do_str_ne ?_ | refine DoN_len tok rfl ?_ | refine Eqv_in ?_)) | ((try conv => whnf); (first | (refine St_gate ?_; refine xS ?_) | (refine StN_gate ?_; refine xN ?_)); clear H; intro w H))))
      exact ⟨0 + 1, ⟨congrArg some (vint (by omega)), congrArg some (congrArg Value.string (accM_one (f := asT txt) htk (ruH r)).symm), trivial⟩, ⟨⟨by omega, all_up htk hall g5⟩, H.tail⟩, by omega⟩
    (repeat first | refine goN ?_ | ((try conv => whnf); first | (refine Ar_gate ?_; first | (fail_if_success skip) | refine xA ?_) | (first | refine Do_str_eq ?_ | refine Do_str_ne ?_ | refine DoN_len tok rfl ?_ | refine Eqv_in ?_)) | ((try conv => whnf); (first | (refine St_gate ?_; refine xS ?_) | (refine StN_gate ?_; refine xN ?_)); clear H; intro w H))
    refine Do_sadd ?_ (by (try simp only [ByteArray.size_append, byteSize, str_size, List.size_toArray, List.length_cons, List.length_nil]); omega)
    (repeat first | refine goN ?_ | ((try conv => whnf); first | (refine Ar_gate ?_; first | (fail_if_success skip) | refine xA ?_) | (first | refine Do_str_eq ?_ | refine Do_str_ne ?_ | refine DoN_len tok rfl ?_ | refine Eqv_in ?_)) | ((try conv => whnf); (first | (refine St_gate ?_; refine xS ?_) | (refine StN_gate ?_; refine xN ?_)); clear H; intro w H))
    refine Draw_intro mixed [0, 1, 2, 3, 4, 5, 6, 7, 8, 9] (by decide +kernel) (fun w _ fd => ?_); replace H := H.fr fd; clear fd
    (repeat first | refine goN ?_ | ((try conv => whnf); first | (refine Ar_gate ?_; first | (fail_if_success skip) | refine xA ?_) | (first | refine Do_str_eq ?_ | refine Do_str_ne ?_ | refine DoN_len tok rfl ?_ | refine Eqv_in ?_)) | ((try conv => whnf); (first | (refine St_gate ?_; refine xS ?_) | (refine StN_gate ?_; refine xN ?_)); clear H; intro w H))
    refine DoS_sadd (fun J1 hJ1 => ?_) (by (try simp only [ByteArray.size_append, byteSize, str_size, List.size_toArray, List.length_cons, List.length_nil]); omega)
    (repeat first | refine goN ?_ | ((try conv => whnf); first | (refine Ar_gate ?_; first | (fail_if_success skip) | refine xA ?_) | (first | refine Do_str_eq ?_ | refine Do_str_ne ?_ | refine DoN_len tok rfl ?_ | refine Eqv_in ?_)) | ((try conv => whnf); (first | (refine St_gate ?_; refine xS ?_) | (refine StN_gate ?_; refine xN ?_)); clear H; intro w H))
    refine LdN_src (o := 0) (j := 1) (H.srcCM 1 9 (.head _) rfl (by decide)) (vs := [.int .i64 k.to.op, .int .i64 k.to.num, .string k.to.name, .slice k.to.at_ k.to.kids.length k.to.cap, .int .i64 k.to.line, .int .i64 k.to.col]) rfl rfl ?_
    (repeat first | refine goN ?_ | ((try conv => whnf); first | (refine Ar_gate ?_; first | (fail_if_success skip) | refine xA ?_) | (first | refine Do_str_eq ?_ | refine Do_str_ne ?_ | refine DoN_len tok rfl ?_ | refine Eqv_in ?_)) | ((try conv => whnf); (first | (refine St_gate ?_; refine xS ?_) | (refine StN_gate ?_; refine xN ?_)); clear H; intro w H))
    refine Call_of (dText k.to H (hs.2.2 k hmem) hkb (writ_shape g4)) ?_
    clear H
    rintro _ w ⟨rfl, H⟩
    (repeat first | refine goN ?_ | ((try conv => whnf); first | (refine Ar_gate ?_; first | (fail_if_success skip) | refine xA ?_) | (first | refine Do_str_eq ?_ | refine Do_str_ne ?_ | refine DoN_len tok rfl ?_ | refine Eqv_in ?_)) | ((try conv => whnf); (first | (refine St_gate ?_; refine xS ?_) | (refine StN_gate ?_; refine xN ?_)); clear H; intro w H))
    (repeat (refine Kept_gate ?_; refine ⟨hJ1 _, ?_⟩; (repeat first | refine goN ?_ | ((try conv => whnf); first | (refine Ar_gate ?_; first | (fail_if_success skip) | refine xA ?_) | (first | refine Do_str_eq ?_ | refine Do_str_ne ?_ | refine DoN_len tok rfl ?_ | refine Eqv_in ?_)) | ((try conv => whnf); (first | (refine St_gate ?_; refine xS ?_) | (refine StN_gate ?_; refine xN ?_)); clear H; intro w H))))
    refine DoS_sadd (fun J2 hJ2 => ?_) (by (try simp only [ByteArray.size_append, byteSize, str_size, List.size_toArray, List.length_cons, List.length_nil]); omega)
    (repeat first | refine goN ?_ | ((try conv => whnf); first | (refine Ar_gate ?_; first | (fail_if_success skip) | refine xA ?_) | (first | refine Do_str_eq ?_ | refine Do_str_ne ?_ | refine DoN_len tok rfl ?_ | refine Eqv_in ?_)) | ((try conv => whnf); (first | (refine St_gate ?_; refine xS ?_) | (refine StN_gate ?_; refine xN ?_)); clear H; intro w H))
    (repeat (refine Kept_gate ?_; (first | refine ⟨hJ1 _, ?_⟩ | refine ⟨hJ2 _, ?_⟩); (repeat first | refine goN ?_ | ((try conv => whnf); first | (refine Ar_gate ?_; first | (fail_if_success skip) | refine xA ?_) | (first | refine Do_str_eq ?_ | refine Do_str_ne ?_ | refine DoN_len tok rfl ?_ | refine Eqv_in ?_)) | ((try conv => whnf); (first | (refine St_gate ?_; refine xS ?_) | (refine StN_gate ?_; refine xN ?_)); clear H; intro w H))))
    refine DoS_sadd (fun J3 hJ3 => ?_) (by (try simp only [ByteArray.size_append, byteSize, str_size, List.size_toArray, List.length_cons, List.length_nil]); omega)
    (repeat first | refine goN ?_ | ((try conv => whnf); first | (refine Ar_gate ?_; first | (fail_if_success skip) | refine xA ?_) | (first | refine Do_str_eq ?_ | refine Do_str_ne ?_ | refine DoN_len tok rfl ?_ | refine Eqv_in ?_)) | ((try conv => whnf); (first | (refine St_gate ?_; refine xS ?_) | (refine StN_gate ?_; refine xN ?_)); clear H; intro w H))
    (repeat (refine Kept_gate ?_; (first | refine ⟨hJ1 _, ?_⟩ | refine ⟨hJ2 _, ?_⟩ | refine ⟨hJ3 _, ?_⟩); (repeat first | refine goN ?_ | ((try conv => whnf); first | (refine Ar_gate ?_; first | (fail_if_success skip) | refine xA ?_) | (first | refine Do_str_eq ?_ | refine Do_str_ne ?_ | refine DoN_len tok rfl ?_ | refine Eqv_in ?_)) | ((try conv => whnf); (first | (refine St_gate ?_; refine xS ?_) | (refine StN_gate ?_; refine xN ?_)); clear H; intro w H))))
    exact ⟨i + 1, ⟨congrArg some (vint (by omega)), congrArg some (congrArg Value.string (accM_snoc (f := asT txt) htk (ruH r) g2 hlt).symm), trivial⟩, ⟨⟨by omega, all_up htk hall g5⟩, H.tail⟩, by omega⟩
  · have k3 : ¬ (i : Int) < (r.acts.length : Nat) := k1
    have hie : i = r.acts.length := by omega
    subst hie
    have z3 := hz r.acts.length
    (repeat first | refine goN ?_ | ((try conv => whnf); first | (refine Ar_gate ?_; first | (fail_if_success skip) | refine xA ?_) | (first | refine Do_str_eq ?_ | refine Do_str_ne ?_ | refine DoN_len tok rfl ?_ | refine Eqv_in ?_)) | ((try conv => whnf); (first | (refine St_gate ?_; refine xS ?_) | (refine StN_gate ?_; refine xN ?_)); clear H; intro w H))
    refine Do_sadd ?_ (by (try simp only [ByteArray.size_append, byteSize, str_size, List.size_toArray, List.length_cons, List.length_nil]); omega)
    (repeat first | refine goN ?_ | ((try conv => whnf); first | (refine Ar_gate ?_; first | (fail_if_success skip) | refine xA ?_) | (first | refine Do_str_eq ?_ | refine Do_str_ne ?_ | refine DoN_len tok rfl ?_ | refine Eqv_in ?_)) | ((try conv => whnf); (first | (refine St_gate ?_; refine xS ?_) | (refine StN_gate ?_; refine xN ?_)); clear H; intro w H))
    exact Ret_in ⟨ret_yes2 (by unfold ruB manyB; rw [h1, decide_eq_true h2, decide_eq_true h3, all_end hall]; rfl) (by rw [List.take_length]; rfl), H.tail⟩
end
end Go.Proofs.YthpekiohalejmaaGreatDoor
