/- Keys of clauses: a clause's literals as a text. -/
import Derived.Test.YtkgmgjiomniijaaDoorProofM
import Derived.Test.YtkgmgjiomniijaaDoorAppI
import Derived.Test.YtkgmgjiomniijaaDoorLitC
import Derived.Test.YtkgmgjiomniijaaDoorMapD
import Derived.Laws.IdiomStrings
set_option linter.unusedVariables false
set_option linter.unusedSimpArgs false
namespace Go.Vc
open Go
theorem bytesEq (a b : ByteArray) : (a == b) = true ↔ a = b := by
  constructor
  · intro h
    obtain ⟨x⟩ := a; obtain ⟨y⟩ := b
    have : (x == y) = true := h
    simpa using this
  · intro h; subst h
    obtain ⟨x⟩ := a
    show (x == x) = true
    simp
theorem MKey.string {P : Program} {kt : TypeId} (hd : P.underlying kt = some .string) : MKey P kt fun v => ∃ s : ByteArray, v = .string s where
  check := by
    rintro w em v ⟨n, rfl⟩
    show (Instr.checkKey em (9999 + 1) kt (.string n)).run P w = _
    generalize 9999 = d
    simp [Instr.checkKey, underlying, hd]
  eq := by
    rintro w x y ⟨a, rfl⟩ ⟨b, rfl⟩
    refine ⟨a == b, ?_, (bytesEq a b).trans ⟨fun h => by rw [h], fun h => Value.string.inj h⟩⟩
    show (Op.equalIn (9999 + 1) kt (.string a) (.string b)).run P w = _
    generalize 9999 = d
    simp [Op.equalIn, underlying, hd]
  now := by
    rintro d x y b hd' ⟨m, rfl⟩ ⟨n, rfl⟩ h
    rw [hd] at hd'
    cases hd'
    simp [Instr.sameNow] at h
    subst h
    exact (bytesEq m n).trans ⟨fun h => by rw [h], fun h => Value.string.inj h⟩
  und := ⟨_, hd⟩
  stays := by
    rintro v ⟨n, rfl⟩
    show Instr.sameBits (9999 + 1) (.string n) (.string n) = true
    generalize 9999 = d
    simp [Instr.sameBits, bytesEq]
theorem MKey.sub {P : Program} {kt : TypeId} {Kd Kd' : Value → Prop} (h : MKey P kt Kd) (hs : ∀ v, Kd' v → Kd v) : MKey P kt Kd' :=
  ⟨fun w em v hv => h.check w em (hs _ hv), fun w x y hx hy => h.eq w (hs _ hx) (hs _ hy), fun hd hx hy hh => h.now hd (hs _ hx) (hs _ hy) hh, h.und, fun hv => h.stays (hs _ hv)⟩

/-! Numerals -/
def digVal (l : List UInt8) : Nat := l.foldl (fun a b => a * 10 + (b.toNat - 48)) 0
theorem dig_all : ∀ (u : Nat), (∀ b ∈ Lib.decDigits u, 48 ≤ b.toNat ∧ b.toNat ≤ 57) ∧ digVal (Lib.decDigits u) = u := by
  intro u
  induction u using Nat.strongRecOn with
  | ind u ih =>
    have h1 : ∀ k : Nat, k < 10 → (UInt8.ofNat (48 + k)).toNat = 48 + k := by
      intro k hk
      rw [UInt8.toNat_ofNat']
      omega
    by_cases h : u < 10
    · rw [Lib.decDigits_one h]
      refine ⟨fun b hb => ?_, ?_⟩
      · rw [List.mem_singleton] at hb; subst hb
        rw [h1 u h]; omega
      · unfold digVal
        simp only [List.foldl_cons, List.foldl_nil]
        rw [h1 u h]; omega
    · have hq : u / 10 < u := by omega
      obtain ⟨k1, k2⟩ := ih (u / 10) hq
      have e : Lib.decDigits u = Lib.decDigits (u / 10) ++ [UInt8.ofNat (48 + u % 10)] := by
        conv => lhs; unfold Lib.decDigits
        rw [dif_neg h]
      rw [e]
      refine ⟨fun b hb => ?_, ?_⟩
      · rw [List.mem_append, List.mem_singleton] at hb
        rcases hb with hb | rfl
        · exact k1 b hb
        · rw [h1 _ (by omega)]; omega
      · unfold digVal at k2 ⊢
        rw [List.foldl_append, k2]
        simp only [List.foldl_cons, List.foldl_nil]
        rw [h1 _ (by omega)]; omega
theorem itoa_no {x : Int} : ∀ b ∈ Lib.itoa x, b ≠ 32 := by
  intro b hb e
  subst e
  unfold Lib.itoa at hb
  split at hb
  · rcases List.mem_cons.1 hb with h | h
    · exact absurd h (by decide)
    · have := (dig_all _).1 _ h
      exact absurd this.1 (by decide)
  · have := (dig_all _).1 _ hb
    exact absurd this.1 (by decide)
theorem itoa_inj {x y : Int} (h : Lib.itoa x = Lib.itoa y) : x = y := by
  have hd : ∀ u v : Nat, Lib.decDigits u = Lib.decDigits v → u = v := fun u v e => by rw [← (dig_all u).2, ← (dig_all v).2, e]
  have h45 : ∀ u v : Nat, 45 :: Lib.decDigits u ≠ Lib.decDigits v := by
    intro u v e
    have : (45 : UInt8) ∈ Lib.decDigits v := by rw [← e]; exact .head _
    exact absurd ((dig_all v).1 _ this).1 (by decide)
  unfold Lib.itoa at h
  split at h <;> split at h
  · have := hd _ _ (List.cons.inj h).2; omega
  · exact (h45 _ _ h).elim
  · exact (h45 _ _ h.symm).elim
  · have := hd _ _ h; omega
/-- A clause's literals, as a text. -/
def keyB (k : List Int) : List UInt8 := k.flatMap fun x => 32 :: Lib.itoa x
def keyV (k : List Int) : Value := .string ⟨(keyB k).toArray⟩
theorem keyB_inj : ∀ {a b : List Int}, keyB a = keyB b → a = b
  | [], [], _ => rfl
  | [], y :: b, h => by simp [keyB] at h
  | x :: a, [], h => by simp [keyB] at h
  | x :: a, y :: b, h => by
    have h' : Lib.itoa x ++ keyB a = Lib.itoa y ++ keyB b := by
      have : 32 :: (Lib.itoa x ++ keyB a) = 32 :: (Lib.itoa y ++ keyB b) := h
      exact (List.cons.inj this).2
    have ht : ∀ (u : List UInt8) (c : List Int), (∀ z ∈ u, z ≠ 32) → (u ++ keyB c).takeWhile (fun z => decide (z ≠ 32)) = u := by
      intro u c hu
      rw [List.takeWhile_append_of_pos (by simpa using hu)]
      cases c with
      | nil => simp [keyB]
      | cons z c =>
        have : keyB (z :: c) = 32 :: (Lib.itoa z ++ keyB c) := rfl
        rw [this, List.takeWhile_cons]
        simp
    have e1 := ht _ a (itoa_no (x := x))
    have e2 := ht _ b (itoa_no (x := y))
    rw [h', e2] at e1
    have e3 := itoa_inj e1
    subst e3
    rw [keyB_inj (List.append_cancel_left h')]
theorem keyV_inj (a b : List Int) (h : keyV a = keyV b) : a = b := by
  unfold keyV at h
  have h1 := Value.string.inj h
  have h2 := congrArg (fun z => z.data.toList) h1
  simp at h2
  exact keyB_inj h2

/-! A row that a library call extends -/
theorem ownsRow_of {w : World} {B : Nat} {a : Option Addr} {n cap el : Nat} {xs : List Value} (h : Own w a n cap el 1 xs) (hB : ∀ x, Blk a x → B ≤ x) : w.ownsRow B el 1 (.slice a n cap) n xs := by
  obtain ⟨h1, h2, h3, h4⟩ := h
  refine ⟨h1, ?_⟩
  rcases h4 with ⟨rfl, rfl⟩ | ⟨b, rest, rfl, hat, hl⟩
  · obtain rfl : n = 0 := by omega
    exact .inl ⟨rfl, rfl⟩
  · refine .inr ⟨b, cap, (xs ++ rest).toArray, rfl, hB b rfl, hat.out, h2, h3, by simpa using hl, ?_⟩
    rw [List.toList_toArray, List.take_append_of_le_length (by omega), ← h1, List.take_length]
theorem Fr.below {w w1 w2 : World} (f : Fr (fun _ => False) w w1) (hb : Go.RowKit.Below w.heap.size w1 w2) : Fr (fun _ => False) w w2 := by
  refine ⟨hb.os.trans f.os, hb.output.trans f.out, Nat.le_trans f.size hb.size, fun b h1 h2 => (hb.block b h1).trans (f.old b h1 h2), fun x hx => ?_⟩
  unfold World.frozen?
  rw [hb.block _ hx, f.old _ hx (fun h => h)]
theorem own_ofRow {w w1 w2 : World} {v : Value} {n el : Nat} {xs : List Value} (h : w2.ownsRow w.heap.size el 1 v n xs) (f : Fr (fun _ => False) w w1) (hb : Go.RowKit.Below w.heap.size w1 w2) :
    ∃ a cap, v = .slice a n cap ∧ Sep w w2 [ownR a n cap el 1 xs] := by
  have fr := Fr.below f hb
  obtain ⟨h1, h2⟩ := h
  rcases h2 with ⟨rfl, rfl⟩ | ⟨g, cap, cur, rfl, hg, hc, hn, hm, hs, ht⟩
  · have hx : xs = [] := List.length_eq_zero_iff.1 (by simpa using h1)
    subst hx
    exact ⟨none, 0, rfl, Own.nilR (⟨fr, trivial⟩ : Sep w w2 []) el 1⟩
  · refine ⟨some ⟨g, 0, none⟩, cap, rfl, (Sep.nil w).cons (S1 := fun x => x = g) fr ⟨fun x hx => ?_, h1, hn, hm, .inr ⟨g, cur.toList.drop (n * 1), rfl, ⟨?_⟩, ?_⟩⟩ fun x hx => by subst hx; exact hg⟩
    · unfold Blk at hx; cases hx; rfl
    · rw [hc, ← ht, List.take_append_drop]
    · rw [← ht, List.take_append_drop]; simpa using hs
/-- A table of the library's own stays. -/
theorem TabIs.fr {P : Program} {w w' : World} {name : String} {k : IntKind} {zs : List Int} (h : Lib.TabIs P w name k zs) (f : Fr (fun _ => False) w w') : Lib.TabIs P w' name k zs := by
  unfold Lib.TabIs World.var? at *
  cases hg : P.globalNamed name with
  | none => simp [hg] at h
  | some g =>
    simp only [hg, Option.bind_some] at h ⊢
    have hlt : g < w.heap.size := by
      rcases Nat.lt_or_ge g w.heap.size with h' | h'
      · exact h'
      · rw [Array.getElem?_eq_none h'] at h; simp at h
    rw [f.old g hlt (fun h => h)]
    exact h
end Go.Vc
namespace Go.Proofs.YtkgmgjiomniijaaDoor
open Go Go.Vc Go.Watch Go.Lit
set_option maxHeartbeats 4000000
set_option maxRecDepth 100000
def Pow (w : World) : Prop := Lib.TabIs Tryd.prog w "internal/strconv.uint64pow10" .u64 Lib.pow10Tab
def u8V (b : UInt8) : Value := .int .u8 (b.toNat : Int)
section
variable {w0 w : World} {l : List Res}
theorem itoa_short {x : Int} (h1 : -9223372036854775808 ≤ x) (h2 : x ≤ 9223372036854775807) : (Lib.itoa x).length ≤ 21 := by
  have hn : ∀ u : Nat, u < 10 ^ 20 → Lib.nDigits u ≤ 20 := by
    intro u hu
    apply Classical.byContradiction
    intro hc
    have hp := Lib.nDigits_pos u
    have : ∀ (f u : Nat), u < f → Lib.nDigits u ≤ 20 ∨ 10 ^ 20 ≤ u := by
      intro f
      induction f with
      | zero => intro u h; omega
      | succ f ih =>
        intro u h
        by_cases h10 : u < 10
        · rw [Lib.nDigits_small h10]; omega
        · have : ∀ (k u : Nat), 20 < Lib.nDigits u → True := fun _ _ _ => trivial
          exact Classical.byCases (fun h3 : 10 ^ 20 ≤ u => .inr h3) fun h3 => .inl (by
            have h4 : ∀ (d u : Nat), u < 10 ^ d → 1 ≤ d → Lib.nDigits u ≤ d := by
              intro d
              induction d with
              | zero => intro u _ h; omega
              | succ d ihd =>
                intro u hu _
                by_cases hu10 : u < 10
                · rw [Lib.nDigits_small hu10]; omega
                · rw [Lib.nDigits_big hu10]
                  have : u / 10 < 10 ^ d := by rw [Nat.pow_succ] at hu; omega
                  have := ihd (u / 10) this (by
                    cases d with
                    | zero => omega
                    | succ d => omega)
                  omega
            exact h4 20 u (by omega) (by decide))
    rcases this (u + 1) u (by omega) with h | h
    · exact hc h
    · omega
  unfold Lib.itoa
  split
  · rw [List.length_cons, Lib.decDigits_length]
    have := hn x.natAbs (by omega)
    omega
  · rw [Lib.decDigits_length]
    have := hn x.toNat (by omega)
    omega
theorem keyB_len {k : List Int} (h : ∀ x ∈ k, -9223372036854775808 ≤ x ∧ x ≤ 9223372036854775807) : (keyB k).length ≤ 22 * k.length := by
  induction k with
  | nil => simp [keyB]
  | cons x k ih =>
    have h1 := itoa_short (h x (.head _)).1 (h x (.head _)).2
    have h2 := ih fun y hy => h y (.tail _ hy)
    have : keyB (x :: k) = 32 :: (Lib.itoa x ++ keyB k) := rfl
    rw [this, List.length_cons, List.length_append, List.length_cons]
    omega
theorem keyB_next {k : List Int} {i : Nat} {x : Int} (h : k[i]? = some x) : keyB (k.take (i + 1)) = keyB (k.take i) ++ 32 :: Lib.itoa x := by
  unfold keyB
  rw [List.take_add_one, h, List.flatMap_append]
  simp

theorem Do_bytes {w : World} {a : Option Addr} {cap : Nat} {bs : List UInt8} {K : Value → World → Prop} (h : Vc.Own w a bs.length cap 5 1 (bs.map u8V)) (hk : K (.string ⟨bs.toArray⟩) w) : Do Tryd.prog (convert 88 9 (.slice a bs.length cap)) w K := by
  cases a with
  | none =>
    have h0 : bs = [] := by
      rcases h.2.2.2 with ⟨_, hc⟩ | ⟨b, rest, hb, _⟩
      · have := h.2.1
        exact List.length_eq_zero_iff.1 (by omega)
      · cases hb
    subst h0
    refine ⟨_, w, ?_, hk⟩
    rw [List.length_nil, run_convert_bytes_string w _ _ 5 none 0 cap Tryd.underlying88 Tryd.underlying5 Tryd.underlying9]
    rfl
  | some p =>
    refine ⟨_, w, run_convert_bytes_back w _ _ 5 p cap bs Tryd.underlying88 Tryd.underlying5 Tryd.underlying9 fun j hj => ?_, hk⟩
    exact (h.src.cell (j := j) (u := u8V bs[j]) (by rw [List.getElem?_map, List.getElem?_eq_getElem hj]; rfl))
theorem kApp {a : Option Addr} {n cap : Nat} {xs : List Value} {y : Int} (H : Sep w0 w l) (hm : ownR a n cap 5 1 xs ∈ l) (hp : Pow w0) (hn : n ≤ 100000000000000) (h1 : -9223372036854775808 ≤ y) (h2 : y ≤ 9223372036854775807) :
    Does Tryd.prog 50 #[.slice a n cap, .int .i64 y, .int .i64 10] w fun v w' => ∃ a' cap', v = .slice a' (n + (Lib.itoa y).length) cap' ∧ Sep w0 w' [ownR a' (n + (Lib.itoa y).length) cap' 5 1 (xs ++ (Lib.itoa y).map u8V)] := by
  refine ⟨Tryd.call50 _ _, ?_⟩
  obtain ⟨S1, k1, k2, _⟩ := H.at hm
  have hrow := ownsRow_of (B := w0.heap.size) k1.2 fun x hx => (k2 x (k1.1 x hx)).1
  have htab : Lib.TabBelow Tryd.prog w0.heap.size w "internal/strconv.uint64pow10" .u64 Lib.pow10Tab := fun w' hb => TabIs.fr hp (Fr.below H.base hb)
  refine (Any.strconv_AppendInt_10 (P := Tryd.prog) (ρ := Tryd.appL_ren) Tryd.appL w0.heap.size n y h1 h2 _ xs w hrow H.base.size (by omega) htab).mono ?_
  rintro e w' ⟨v, rfl, hr, hb, _⟩
  obtain ⟨a', cap', rfl, H'⟩ := own_ofRow hr H.base hb
  exact ⟨_, rfl, a', cap', rfl, H'⟩

theorem kKey {xs : List Int} {a : Option Addr} {c : Nat} (H0 : Sep w0 w l) (hp : Pow w0) (hs : Src w a xs.length 1 (xs.map lV)) (hm : xs.length ≤ 1000000000000) (ho : ∀ x ∈ xs, Lit.one x = true) :
    Does Tryd.prog 32 #[.slice a xs.length c] w fun v w' => ∃ own, Lit.Clean xs own ∧ v = keyV own ∧ Sep w0 w' l := by
  refine Does_intro tok (Tryd.call32 _ _) Tryd.func32 rfl (by rfl) ?_
  (repeat first | refine go ?_ | ((try conv => whnf); (first | (refine St_gate ?_; refine xS ?_) | (refine StN_gate ?_; refine xN ?_)); clear H; intro w H))
  refine Call_of (fClean H0 hs (by omega) ho) ?_
  clear H0 hs
  rintro _ w ⟨oa, oc, own, rfl, hcl, hol, H0⟩
  have hown : ∀ x ∈ own, -262144 ≤ x ∧ x ≤ 262144 := fun x hx => by
    have := one_iff.1 (ho x ((hcl.mem x).1 hx)); omega
  have hkl : ∀ i, (keyB (own.take i)).length ≤ 22 * own.length := fun i => by
    have h1 := keyB_len (k := own.take i) fun x hx => by have := hown x (List.mem_of_mem_take hx); omega
    have h2 : (own.take i).length ≤ own.length := by rw [List.length_take]; omega
    omega
  have hsrc0 := H0.srcM (a := oa) (n := own.length) (cap := oc) (el := 32) (sz := 1) (xs := own.map lV) mm
  have hP : Pow w := TabIs.fr hp H0.base
  have H := Sep.nil w
  generalize hw1 : w = w1 at H H0 hsrc0 hP
  subst hw1
  replace H := Own.nilR H 5 1
  (repeat first | refine go ?_ | ((try conv => whnf); (first | (refine St_gate ?_; refine xS ?_) | (refine StN_gate ?_; refine xN ?_)); clear H; intro w H))
  refine Loop_intro (fun q : Nat × Option Addr × Nat => [(17, .int .i64 (q.1 : Int)), (6, .slice q.2.1 (keyB (own.take q.1)).length q.2.2)]) (fun q w' => q.1 ≤ own.length ∧ Sep w w' [ownR q.2.1 (keyB (own.take q.1)).length q.2.2 5 1 ((keyB (own.take q.1)).map u8V)]) (fun q => own.length - q.1)
    (0, none, 0) ⟨rfl, rfl, trivial⟩ ⟨Nat.zero_le _, H⟩ ?_
  clear H
  rintro ⟨i, ba, bc⟩ w2 ⟨hi, H⟩
  simp only [] at hi H ⊢
  refine Br_dec (fun k1 => ?_) (fun k1 => ?_)
  · have hlt : i < own.length := by omega
    have hsrc := H.rd hsrc0
    obtain ⟨yb, yo, rfl⟩ := hsrc.addr (by rw [List.length_map]; omega)
    have hyi : own[i]? = some own[i] := List.getElem?_eq_getElem hlt
    have hym := List.getElem_mem hlt
    have hnx := keyB_next hyi
    have hk1 := hkl i
    generalize own[i] = y at *
    have hyb := hown y hym
    refine Ix_in i rfl hlt ?_
    refine Ld_src (j := i) hsrc (v := lV y) (by rw [List.getElem?_map, hyi]; rfl) ?_
    clear hsrc
    (repeat first | refine go ?_ | ((try conv => whnf); (first | (refine St_gate ?_; refine xS ?_) | (refine StN_gate ?_; refine xN ?_)); clear H; intro w H))
    (refine Nw_sep H ?_; clear H; intro nb w H; (try simp only [Value.cells, List.toList_toArray, List.append_nil, List.cons_append, List.nil_append] at H))
    (repeat first | refine go ?_ | ((try conv => whnf); (first | (refine St_gate ?_; refine xS ?_) | (refine StN_gate ?_; refine xN ?_)); clear H; intro w H))
    (refine DoN_gate ?_; refine append_one tok H rfl rfl rfl rfl rfl (by decide) mm (m := 1) rfl (by simp [oneCell]) (by omega) (by unfold maxLen; omega) ?_; clear H; intro b2 c2 w H; replace H := H _ (by repeat first | exact Upd.head | apply Upd.tail))
    (repeat first | refine go ?_ | ((try conv => whnf); (first | (refine St_gate ?_; refine xS ?_) | (refine StN_gate ?_; refine xN ?_)); clear H; intro w H))
    have hsp : (keyB (own.take i)).map u8V ++ [.int .u8 32] = (keyB (own.take i) ++ [32]).map u8V := by rw [List.map_append]; rfl
    refine Call_of (kApp H mm hP (by omega) (by omega) (by omega)) ?_
    clear H
    rintro _ w3 ⟨b3, c3, rfl, H⟩
    have e1 : (keyB (own.take i)).length + 1 + (Lib.itoa y).length = (keyB (own.take (i + 1))).length := by rw [hnx]; simp; omega
    have e2 : (keyB (own.take i)).map u8V ++ [.int .u8 32] ++ (Lib.itoa y).map u8V = (keyB (own.take (i + 1))).map u8V := by rw [hnx, hsp]; simp
    rw [e1, e2] at H
    rw [e1]
    (repeat first | refine go ?_ | ((try conv => whnf); (first | (refine St_gate ?_; refine xS ?_) | (refine StN_gate ?_; refine xN ?_)); clear H; intro w H))
    exact ⟨(i + 1, b3, c3), ⟨congrArg some (vint (by simp)), rfl, trivial⟩, ⟨by omega, H⟩, by simp; omega⟩
  · obtain rfl : i = own.length := by omega
    rw [List.take_length] at H ⊢
    (repeat first | refine go ?_ | ((try conv => whnf); (first | (refine St_gate ?_; refine xS ?_) | (refine StN_gate ?_; refine xN ?_)); clear H; intro w H))
    refine Do_bytes (H.ownM (.head _)) ?_
    (repeat first | refine go ?_ | ((try conv => whnf); (first | (refine St_gate ?_; refine xS ?_) | (refine StN_gate ?_; refine xN ?_)); clear H; intro w H))
    exact Ret_in ⟨own, hcl, rfl, (Vc.Sep.tail (Vc.Sep.tail (H0.add H)))⟩
end
end Go.Proofs.YtkgmgjiomniijaaDoor
