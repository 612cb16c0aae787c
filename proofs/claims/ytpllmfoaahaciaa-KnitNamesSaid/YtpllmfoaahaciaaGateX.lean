/- What the methods of a graph make. -/
import Derived.Test.YtpllmfoaahaciaaGateN
namespace Go.Proofs.Ytpllmfoaahaciaa
open Go Go.Vc Go.Gate
set_option linter.unusedVariables false
set_option linter.unusedSimpArgs false
set_option maxHeartbeats 4000000
set_option maxRecDepth 100000

theorem xor1 {a : Nat} (h : a ≤ 4294967295) : IntKind.u32.wrap ((BitVec.ofInt 32 (a : Int) ^^^ BitVec.ofInt 32 1).toNat : Int) = (flip a : Nat) := by
  have h1 : (BitVec.ofInt 32 (a : Int) ^^^ BitVec.ofInt 32 1).toNat = flip a := by
    have e : BitVec.ofInt 32 (a : Int) = BitVec.ofNat 32 a := by rw [BitVec.ofInt_natCast]
    have e1 : BitVec.ofInt 32 1 = BitVec.ofNat 32 1 := rfl
    rw [e, e1, BitVec.toNat_xor, BitVec.toNat_ofNat, BitVec.toNat_ofNat, Nat.mod_eq_of_lt (show a < 2 ^ 32 by omega)]
    rfl
  rw [h1]
  have h2 := flip_eq a
  exact wrap_u32 (by omega) (by split at h2 <;> omega)
theorem Eqv_flip {a : Nat} {K : Int → Prop} (h : a ≤ 4294967295) (hk : K (flip a : Nat)) : Eqv (IntKind.u32.wrap ((BitVec.ofInt IntKind.u32.bits (a : Int) ^^^ BitVec.ofInt IntKind.u32.bits 1).toNat : Int)) K := Eqv_is _ (xor1 h) hk
theorem Eqv_odd {a : Nat} {K : Int → Prop} (hk : K (a % 2 : Nat)) : Eqv ((a : Int).tmod 2) K := Eqv_is _ (by rw [Int.tmod_eq_emod_of_nonneg (by omega)]; omega) hk
theorem Ar_halfU {a : Nat} {K : Int → Prop} (h : a ≤ 4294967295) (h1 : K ((a / 2 : Nat) : Int)) : Ar .u32 ((a : Int).tdiv 2) K := Ar_half h rfl h1

theorem keyK : MKey Try.prog 67 fun v => ∃ p : Nat × Nat, v = pK p := by
  have h := MKey.pair (k := .u32) (kt := 67) (el := 25) tok Try.underlying67 Try.underlying25 rfl
  exact ⟨fun w em v ⟨p, hp⟩ => h.check w em ⟨(p.1, p.2), hp⟩, fun w x y ⟨p, hp⟩ ⟨q, hq⟩ => h.eq w ⟨(p.1, p.2), hp⟩ ⟨(q.1, q.2), hq⟩, fun hd ⟨p, hp⟩ ⟨q, hq⟩ => h.now hd ⟨(p.1, p.2), hp⟩ ⟨(q.1, q.2), hq⟩, h.und, fun ⟨p, hp⟩ => h.stays ⟨(p.1, p.2), hp⟩⟩

theorem DoS_lookup {α : Type} {enc : α → Value} {m : α → Option Value} {kt : TypeId} {w0 w : World} {l : List Res} (K : MKey Try.prog kt fun v => ∃ a, v = enc a) {t el : TypeId} {z : Value} (h : Sep w0 w l) {b : Nat} (hm : mapR b enc m ∈ l) (hd : Tab.d tab t = some (.map kt el)) (hz : Tab.z tab el = some z) (a : α) {ok : Bool} {KK : Value → Option (World → Prop) → Prop}
    (hk : ∀ J, KK (if ok then .tuple #[(m a).getD z, .bool (m a).isSome] else (m a).getD z) (some J)) : DoS Try.prog (Instr.lookup t (.map (some b)) (enc a) ok) w KK := by
  obtain ⟨v, w', hr, rfl, rfl⟩ := (Do_lookup tok K h hm hd hz a (ok := ok) (KK := fun v w' => v = (if ok then .tuple #[(m a).getD z, .bool (m a).isSome] else (m a).getD z) ∧ w = w') ⟨rfl, rfl⟩).out
  exact ⟨_, hr, hk _⟩

/-- A graph whose table knows all gates. -/
def gR (b : Nat) (ps : List (Nat × Nat)) (ins : List Nat) : Res := graphR b ps ins (knownV ps)

section
variable {w0 w : World} {l : List Res} {b : Nat} {ps : List (Nat × Nat)} {ins : List Nat} {kn : Nat × Nat → Option Value}

theorem graphOpenH {r : List Res} (H : Sep w0 w (graphR b ps ins kn :: r)) : GraphOk ps ins ∧ ∃ ap cp ai ci mb, Sep w0 w (cellsR b 64 [.slice ap ps.length cp, .slice ai ins.length ci, .map (some mb)] ::
    ownR ap ps.length cp 67 2 (ps.flatMap pV) :: ownR ai ins.length ci 25 1 (ins.map eV) :: mapR mb pK kn :: r) := by
  obtain ⟨⟨ap, cp, ai, ci, mb⟩, h1⟩ := H.ex
  obtain ⟨h2, h3⟩ := Sep.prop h1.flat
  exact ⟨h2, ap, cp, ai, ci, mb, h3⟩

theorem knownV_add {p : Nat × Nat} (hne : p ≠ (0, 0)) (h : known ps p = none) : putM (knownV ps) p (eV (2 * ps.length)) = knownV (ps ++ [p]) := by
  funext q
  unfold putM knownV
  rw [known_add]
  by_cases hq : q = p
  · subst hq
    rw [if_pos rfl, if_pos ⟨hne, rfl⟩, h]; rfl
  · rw [if_neg hq, if_neg (by rintro ⟨_, h⟩; exact hq h.symm)]

theorem gBoth (H : Sep w0 w l) (hm : gR b ps ins ∈ l) {a c : Nat} (ha : a / 2 < ps.length) (hc : c / 2 < ps.length) (hf : ps.length < 1048576) :
    Does Try.prog 33 #[.pointer (some ⟨b, 0, none⟩), eV a, eV c] w fun v w' => v = .tuple #[eV (bothP ps a c).2, .int .i64 0] ∧ SepU w0 w' l (gR b ps ins) (gR b (bothP ps a c).1 ins) := by
  have hgok := graphOk H hm
  have hB := bothG_ok hgok.g ha hc
  refine Does_intro tok (Try.call33 _ _) Try.func33 rfl (by rfl) ?_
  refine Eqv_is ((min a c : Nat) : Int) (by omega) ?_
  refine Eqv_is ((max a c : Nat) : Int) (by omega) ?_
  have hmin : min a c / 2 < ps.length := by omega
  have hmax : max a c / 2 < ps.length := by omega
  unfold bothP bothG at *
  generalize hlo : min a c = lo at *
  generalize hhi : max a c = hi at *
  by_cases h1 : lo = 0
  · rw [if_pos (.inl h1)]
    (repeat ((try conv => whnf); first | refine Join_dup ?_ | (refine Br_gate ?_; first | with_reducible refine Br_not ?_ | refine xB ?_ | refine xC ?_) | (refine Ld_gate ?_; refine xL ?_) | (refine LdN_gate ?_; refine xM ?_) | (refine St_gate ?_; refine xS ?_; clear H; intro w H) | (refine StN_gate ?_; refine xN ?_; clear H; intro w H) | (refine Kept_gate ?_; refine xK ?_) | (refine Ar_gate ?_; first | (with_reducible refine Ar_halfU (by omega) ?_) | refine xA ?_) | (first | with_reducible refine Eqv_flip (by omega) ?_ | with_reducible refine Eqv_odd ?_ | refine Eqv_in ?_) | refine Do_ptr_eq_nil tok rfl ?_ | refine Do_ptr_ne_nil tok rfl ?_ | refine Do_nil_eq_nil tok rfl ?_ | refine Nn_in (by omega) ?_ | refine Nz_in (by omega) ?_))
    exact Ret_in ⟨rfl, H.same⟩
  by_cases h2 : flip lo = hi
  · rw [if_pos (.inr h2)]
    (repeat ((try conv => whnf); first | refine Join_dup ?_ | (refine Br_gate ?_; first | with_reducible refine Br_not ?_ | refine xB ?_ | refine xC ?_) | (refine Ld_gate ?_; refine xL ?_) | (refine LdN_gate ?_; refine xM ?_) | (refine St_gate ?_; refine xS ?_; clear H; intro w H) | (refine StN_gate ?_; refine xN ?_; clear H; intro w H) | (refine Kept_gate ?_; refine xK ?_) | (refine Ar_gate ?_; first | (with_reducible refine Ar_halfU (by omega) ?_) | refine xA ?_) | (first | with_reducible refine Eqv_flip (by omega) ?_ | with_reducible refine Eqv_odd ?_ | refine Eqv_in ?_) | refine Do_ptr_eq_nil tok rfl ?_ | refine Do_ptr_ne_nil tok rfl ?_ | refine Do_nil_eq_nil tok rfl ?_ | refine Nn_in (by omega) ?_ | refine Nz_in (by omega) ?_))
    exact Ret_in ⟨rfl, H.same⟩
  rw [if_neg (fun h => h.elim h1 h2)]
  by_cases h3 : lo = 1
  · rw [if_pos (.inl h3)]
    (repeat ((try conv => whnf); first | refine Join_dup ?_ | (refine Br_gate ?_; first | with_reducible refine Br_not ?_ | refine xB ?_ | refine xC ?_) | (refine Ld_gate ?_; refine xL ?_) | (refine LdN_gate ?_; refine xM ?_) | (refine St_gate ?_; refine xS ?_; clear H; intro w H) | (refine StN_gate ?_; refine xN ?_; clear H; intro w H) | (refine Kept_gate ?_; refine xK ?_) | (refine Ar_gate ?_; first | (with_reducible refine Ar_halfU (by omega) ?_) | refine xA ?_) | (first | with_reducible refine Eqv_flip (by omega) ?_ | with_reducible refine Eqv_odd ?_ | refine Eqv_in ?_) | refine Do_ptr_eq_nil tok rfl ?_ | refine Do_ptr_ne_nil tok rfl ?_ | refine Do_nil_eq_nil tok rfl ?_ | refine Nn_in (by omega) ?_ | refine Nz_in (by omega) ?_))
    exact Ret_in ⟨rfl, H.same⟩
  by_cases h4 : lo = hi
  · rw [if_pos (.inr h4)]
    (repeat ((try conv => whnf); first | refine Join_dup ?_ | (refine Br_gate ?_; first | with_reducible refine Br_not ?_ | refine xB ?_ | refine xC ?_) | (refine Ld_gate ?_; refine xL ?_) | (refine LdN_gate ?_; refine xM ?_) | (refine St_gate ?_; refine xS ?_; clear H; intro w H) | (refine StN_gate ?_; refine xN ?_; clear H; intro w H) | (refine Kept_gate ?_; refine xK ?_) | (refine Ar_gate ?_; first | (with_reducible refine Ar_halfU (by omega) ?_) | refine xA ?_) | (first | with_reducible refine Eqv_flip (by omega) ?_ | with_reducible refine Eqv_odd ?_ | refine Eqv_in ?_) | refine Do_ptr_eq_nil tok rfl ?_ | refine Do_ptr_ne_nil tok rfl ?_ | refine Do_nil_eq_nil tok rfl ?_ | refine Nn_in (by omega) ?_ | refine Nz_in (by omega) ?_))
    exact Ret_in ⟨rfl, H.same⟩
  rw [if_neg (fun h => h.elim h3 h4)]
  have hmx := hgok.max
  obtain ⟨_, ap, cp, ai, ci, mb, r, hp, H⟩ := graphOpen H hm
  (repeat ((try conv => whnf); first | refine Join_dup ?_ | (refine Br_gate ?_; first | with_reducible refine Br_not ?_ | refine xB ?_ | refine xC ?_) | (refine Ld_gate ?_; refine xL ?_) | (refine LdN_gate ?_; refine xM ?_) | (refine St_gate ?_; refine xS ?_; clear H; intro w H) | (refine StN_gate ?_; refine xN ?_; clear H; intro w H) | (refine Kept_gate ?_; refine xK ?_) | (refine Ar_gate ?_; first | (with_reducible refine Ar_halfU (by omega) ?_) | refine xA ?_) | (first | with_reducible refine Eqv_flip (by omega) ?_ | with_reducible refine Eqv_odd ?_ | refine Eqv_in ?_) | refine Do_ptr_eq_nil tok rfl ?_ | refine Do_ptr_ne_nil tok rfl ?_ | refine Do_nil_eq_nil tok rfl ?_ | refine Nn_in (by omega) ?_ | refine Nz_in (by omega) ?_))
  (refine Nw_sep H ?_; clear H; intro pb w H; (try simp only [Value.cells, List.toList_toArray, List.append_nil, List.cons_append, List.nil_append] at H))
  (repeat ((try conv => whnf); first | refine Join_dup ?_ | (refine Br_gate ?_; first | with_reducible refine Br_not ?_ | refine xB ?_ | refine xC ?_) | (refine Ld_gate ?_; refine xL ?_) | (refine LdN_gate ?_; refine xM ?_) | (refine St_gate ?_; refine xS ?_; clear H; intro w H) | (refine StN_gate ?_; refine xN ?_; clear H; intro w H) | (refine Kept_gate ?_; refine xK ?_) | (refine Ar_gate ?_; first | (with_reducible refine Ar_halfU (by omega) ?_) | refine xA ?_) | (first | with_reducible refine Eqv_flip (by omega) ?_ | with_reducible refine Eqv_odd ?_ | refine Eqv_in ?_) | refine Do_ptr_eq_nil tok rfl ?_ | refine Do_ptr_ne_nil tok rfl ?_ | refine Do_nil_eq_nil tok rfl ?_ | refine Nn_in (by omega) ?_ | refine Nz_in (by omega) ?_))
  refine Draw_intro mixed [0, 1, 2, 3, 4, 5, 6, 7, 8, 9, 10] (by decide +kernel) (fun w _ fd => ?_); replace H := H.fr fd; clear fd
  (repeat ((try conv => whnf); first | refine Join_dup ?_ | (refine Br_gate ?_; first | with_reducible refine Br_not ?_ | refine xB ?_ | refine xC ?_) | (refine Ld_gate ?_; refine xL ?_) | (refine LdN_gate ?_; refine xM ?_) | (refine St_gate ?_; refine xS ?_; clear H; intro w H) | (refine StN_gate ?_; refine xN ?_; clear H; intro w H) | (refine Kept_gate ?_; refine xK ?_) | (refine Ar_gate ?_; first | (with_reducible refine Ar_halfU (by omega) ?_) | refine xA ?_) | (first | with_reducible refine Eqv_flip (by omega) ?_ | with_reducible refine Eqv_odd ?_ | refine Eqv_in ?_) | refine Do_ptr_eq_nil tok rfl ?_ | refine Do_ptr_ne_nil tok rfl ?_ | refine Do_nil_eq_nil tok rfl ?_ | refine Nn_in (by omega) ?_ | refine Nz_in (by omega) ?_))
  refine DoS_lookup keyK H (by repeat first | exact List.Mem.head _ | refine List.Mem.tail _ ?_) rfl rfl (lo, hi) (fun J => ?_)
  have hkv : knownV ps (lo, hi) = (known ps (lo, hi)).map fun k => eV (2 * k) := rfl
  cases hk : known ps (lo, hi) with
  | some k =>
    rw [hkv, hk]
    (repeat ((try conv => whnf); first | refine Join_dup ?_ | (refine Br_gate ?_; first | with_reducible refine Br_not ?_ | refine xB ?_ | refine xC ?_) | (refine Ld_gate ?_; refine xL ?_) | (refine LdN_gate ?_; refine xM ?_) | (refine St_gate ?_; refine xS ?_; clear H; intro w H) | (refine StN_gate ?_; refine xN ?_; clear H; intro w H) | (refine Kept_gate ?_; refine xK ?_) | (refine Ar_gate ?_; first | (with_reducible refine Ar_halfU (by omega) ?_) | refine xA ?_) | (first | with_reducible refine Eqv_flip (by omega) ?_ | with_reducible refine Eqv_odd ?_ | refine Eqv_in ?_) | refine Do_ptr_eq_nil tok rfl ?_ | refine Do_ptr_ne_nil tok rfl ?_ | refine Do_nil_eq_nil tok rfl ?_ | refine Nn_in (by omega) ?_ | refine Nz_in (by omega) ?_))
    refine Br_yes rfl ?_
    (repeat ((try conv => whnf); first | refine Join_dup ?_ | (refine Br_gate ?_; first | with_reducible refine Br_not ?_ | refine xB ?_ | refine xC ?_) | (refine Ld_gate ?_; refine xL ?_) | (refine LdN_gate ?_; refine xM ?_) | (refine St_gate ?_; refine xS ?_; clear H; intro w H) | (refine StN_gate ?_; refine xN ?_; clear H; intro w H) | (refine Kept_gate ?_; refine xK ?_) | (refine Ar_gate ?_; first | (with_reducible refine Ar_halfU (by omega) ?_) | refine xA ?_) | (first | with_reducible refine Eqv_flip (by omega) ?_ | with_reducible refine Eqv_odd ?_ | refine Eqv_in ?_) | refine Do_ptr_eq_nil tok rfl ?_ | refine Do_ptr_ne_nil tok rfl ?_ | refine Do_nil_eq_nil tok rfl ?_ | refine Nn_in (by omega) ?_ | refine Nz_in (by omega) ?_))
    exact Ret_in ⟨rfl, SepU.mk hp (graphClose hgok H.tail)⟩
  | none =>
    rw [hkv, hk]
    (repeat ((try conv => whnf); first | refine Join_dup ?_ | (refine Br_gate ?_; first | with_reducible refine Br_not ?_ | refine xB ?_ | refine xC ?_) | (refine Ld_gate ?_; refine xL ?_) | (refine LdN_gate ?_; refine xM ?_) | (refine St_gate ?_; refine xS ?_; clear H; intro w H) | (refine StN_gate ?_; refine xN ?_; clear H; intro w H) | (refine Kept_gate ?_; refine xK ?_) | (refine Ar_gate ?_; first | (with_reducible refine Ar_halfU (by omega) ?_) | refine xA ?_) | (first | with_reducible refine Eqv_flip (by omega) ?_ | with_reducible refine Eqv_odd ?_ | refine Eqv_in ?_) | refine Do_ptr_eq_nil tok rfl ?_ | refine Do_ptr_ne_nil tok rfl ?_ | refine Do_nil_eq_nil tok rfl ?_ | refine Nn_in (by omega) ?_ | refine Nz_in (by omega) ?_))
    refine Br_no rfl ?_
    (repeat ((try conv => whnf); first | refine Join_dup ?_ | (refine Br_gate ?_; first | with_reducible refine Br_not ?_ | refine xB ?_ | refine xC ?_) | (refine Ld_gate ?_; refine xL ?_) | (refine LdN_gate ?_; refine xM ?_) | (refine St_gate ?_; refine xS ?_; clear H; intro w H) | (refine StN_gate ?_; refine xN ?_; clear H; intro w H) | (refine Kept_gate ?_; refine xK ?_) | (refine Ar_gate ?_; first | (with_reducible refine Ar_halfU (by omega) ?_) | refine xA ?_) | (first | with_reducible refine Eqv_flip (by omega) ?_ | with_reducible refine Eqv_odd ?_ | refine Eqv_in ?_) | refine Do_ptr_eq_nil tok rfl ?_ | refine Do_ptr_ne_nil tok rfl ?_ | refine Do_nil_eq_nil tok rfl ?_ | refine Nn_in (by omega) ?_ | refine Nz_in (by omega) ?_))
    replace H := H.top 4 rfl (by simp only [List.eraseIdx_cons_succ, List.eraseIdx_cons_zero]; rfl)
    replace H := H.top 4 rfl (by simp only [List.eraseIdx_cons_succ, List.eraseIdx_cons_zero]; rfl)
    replace H := H.top 4 rfl (by simp only [List.eraseIdx_cons_succ, List.eraseIdx_cons_zero]; rfl)
    replace H := H.top 4 rfl (by simp only [List.eraseIdx_cons_succ, List.eraseIdx_cons_zero]; rfl)
    have hne : (lo, hi) ≠ ((0, 0) : Nat × Nat) := by intro he; rw [Prod.mk.injEq] at he; omega
    have hok' : GraphOk (ps ++ [(lo, hi)]) ins := by
      have hg := hB.g
      rw [if_neg (fun h => h.elim h1 h2), if_neg (fun h => h.elim h3 h4), hk] at hg
      simp only [] at hg
      rw [if_neg (by omega)] at hg
      exact ⟨hg, by simp; omega, fun x hx => by have := hgok.inps x hx; simp; omega, by have := hgok.few; simp; omega⟩
    replace H := graphClose hgok H
    refine Call_of (gMore H (.head _) (p := (lo, hi)) hok') ?_
    clear H
    rintro _ w ⟨rfl, H⟩
    replace H := H _ .head
    obtain ⟨_, ap', cp', ai', ci', mb', H⟩ := graphOpenH H
    (repeat ((try conv => whnf); first | refine Join_dup ?_ | (refine Br_gate ?_; first | with_reducible refine Br_not ?_ | refine xB ?_ | refine xC ?_) | (refine Ld_gate ?_; refine xL ?_) | (refine LdN_gate ?_; refine xM ?_) | (refine St_gate ?_; refine xS ?_; clear H; intro w H) | (refine StN_gate ?_; refine xN ?_; clear H; intro w H) | (refine Kept_gate ?_; refine xK ?_) | (refine Ar_gate ?_; first | (with_reducible refine Ar_halfU (by omega) ?_) | refine xA ?_) | (first | with_reducible refine Eqv_flip (by omega) ?_ | with_reducible refine Eqv_odd ?_ | refine Eqv_in ?_) | refine Do_ptr_eq_nil tok rfl ?_ | refine Do_ptr_ne_nil tok rfl ?_ | refine Do_nil_eq_nil tok rfl ?_ | refine Nn_in (by omega) ?_ | refine Nz_in (by omega) ?_))
    refine Draw_intro mixed [0, 1, 2, 3, 4, 5, 6] (by decide +kernel) (fun w _ fd => ?_); replace H := H.fr fd; clear fd
    (repeat ((try conv => whnf); first | refine Join_dup ?_ | (refine Br_gate ?_; first | with_reducible refine Br_not ?_ | refine xB ?_ | refine xC ?_) | (refine Ld_gate ?_; refine xL ?_) | (refine LdN_gate ?_; refine xM ?_) | (refine St_gate ?_; refine xS ?_; clear H; intro w H) | (refine StN_gate ?_; refine xN ?_; clear H; intro w H) | (refine Kept_gate ?_; refine xK ?_) | (refine Ar_gate ?_; first | (with_reducible refine Ar_halfU (by omega) ?_) | refine xA ?_) | (first | with_reducible refine Eqv_flip (by omega) ?_ | with_reducible refine Eqv_odd ?_ | refine Eqv_in ?_) | refine Do_ptr_eq_nil tok rfl ?_ | refine Do_ptr_ne_nil tok rfl ?_ | refine Do_nil_eq_nil tok rfl ?_ | refine Nn_in (by omega) ?_ | refine Nz_in (by omega) ?_))
    refine DoU_mapUpdate pK_inj tok keyK H (by repeat first | exact List.Mem.head _ | refine List.Mem.tail _ ?_) rfl (lo, hi) _ ?_
    clear H
    intro w H
    replace H := H _ (by repeat first | exact Upd.head | apply Upd.tail)
    rw [knownV_add hne hk] at H
    (repeat ((try conv => whnf); first | refine Join_dup ?_ | (refine Br_gate ?_; first | with_reducible refine Br_not ?_ | refine xB ?_ | refine xC ?_) | (refine Ld_gate ?_; refine xL ?_) | (refine LdN_gate ?_; refine xM ?_) | (refine St_gate ?_; refine xS ?_; clear H; intro w H) | (refine StN_gate ?_; refine xN ?_; clear H; intro w H) | (refine Kept_gate ?_; refine xK ?_) | (refine Ar_gate ?_; first | (with_reducible refine Ar_halfU (by omega) ?_) | refine xA ?_) | (first | with_reducible refine Eqv_flip (by omega) ?_ | with_reducible refine Eqv_odd ?_ | refine Eqv_in ?_) | refine Do_ptr_eq_nil tok rfl ?_ | refine Do_ptr_ne_nil tok rfl ?_ | refine Do_nil_eq_nil tok rfl ?_ | refine Nn_in (by omega) ?_ | refine Nz_in (by omega) ?_))
    simp only []
    rw [if_neg (show ¬ 1048576 ≤ ps.length by omega)]
    refine Ret_in ⟨rfl, SepU.mk hp (graphClose (ap := ap') (cp := cp') (ai := ai') (ci := ci') (mb := mb') hok' ?_)⟩
    exact H.drop 4 rfl rfl

theorem upd_of {R R' : Res} : ∀ {l : List Res}, R ∈ l → ∃ l', Upd R R' l l'
  | _, .head _ => ⟨_, .head⟩
  | _, .tail _ h => have ⟨_, h'⟩ := upd_of h; ⟨_, .tail h'⟩

theorem allIn_iff {ps : List (Nat × Nat)} {xs : List Nat} : allIn ps xs = true ↔ ∀ a ∈ xs, a / 2 < ps.length := by simp [allIn]

/-- And: of a row of edges, wherever it lies. -/
theorem gAnd (H : Sep w0 w l) (hm : gR b ps ins ∈ l) {xs : List Nat} {a : Option Addr} {c : Nat} (hs : ∀ {w' : World} {ps' : List (Nat × Nat)}, SepU w0 w' l (gR b ps ins) (gR b ps' ins) → Src w' a xs.length 1 (xs.map eV))
    (hx : ∀ a ∈ xs, a / 2 < ps.length) (hf : ps.length + xs.length ≤ 1048576) :
    Does Try.prog 22 #[.pointer (some ⟨b, 0, none⟩), .slice a xs.length c] w fun v w' => v = .tuple #[eV (andP ps 1 xs).2, .int .i64 0] ∧ SepU w0 w' l (gR b ps ins) (gR b (andP ps 1 xs).1 ins) := by
  have hgok := graphOk H hm
  have hmx := hgok.max
  have hpos := hgok.g.pos
  obtain ⟨r, hp⟩ := mem_cut hm
  refine Does_intro tok (Try.call22 _ _) Try.func22 rfl (by rfl) ?_
  (repeat ((try conv => whnf); first | refine Join_dup ?_ | (refine Br_gate ?_; first | with_reducible refine Br_not ?_ | refine xB ?_ | refine xC ?_) | (refine Ld_gate ?_; refine xL ?_) | (refine LdN_gate ?_; refine xM ?_) | (refine St_gate ?_; refine xS ?_; clear H; intro w H) | (refine StN_gate ?_; refine xN ?_; clear H; intro w H) | (refine Kept_gate ?_; refine xK ?_) | (refine Ar_gate ?_; first | (with_reducible refine Ar_halfU (by omega) ?_) | refine xA ?_) | (first | with_reducible refine Eqv_flip (by omega) ?_ | with_reducible refine Eqv_odd ?_ | refine Eqv_in ?_) | refine Do_ptr_eq_nil tok rfl ?_ | refine Do_ptr_ne_nil tok rfl ?_ | refine Do_nil_eq_nil tok rfl ?_ | refine Nn_in (by omega) ?_ | refine Nz_in (by omega) ?_))
  refine Call_of (gThere H hm (xs := xs) (hs H.same) (fun x h => by have := hx x h; omega) (by unfold maxLen; omega)) ?_
  rintro _ w ⟨rfl, H1⟩
  replace H := (H.add H1).perm hp
  rw [allIn_iff.2 hx]
  (repeat ((try conv => whnf); first | refine Join_dup ?_ | (refine Br_gate ?_; first | with_reducible refine Br_not ?_ | refine xB ?_ | refine xC ?_) | (refine Ld_gate ?_; refine xL ?_) | (refine LdN_gate ?_; refine xM ?_) | (refine St_gate ?_; refine xS ?_; clear H; intro w H) | (refine StN_gate ?_; refine xN ?_; clear H; intro w H) | (refine Kept_gate ?_; refine xK ?_) | (refine Ar_gate ?_; first | (with_reducible refine Ar_halfU (by omega) ?_) | refine xA ?_) | (first | with_reducible refine Eqv_flip (by omega) ?_ | with_reducible refine Eqv_odd ?_ | refine Eqv_in ?_) | refine Do_ptr_eq_nil tok rfl ?_ | refine Do_ptr_ne_nil tok rfl ?_ | refine Do_nil_eq_nil tok rfl ?_ | refine Nn_in (by omega) ?_ | refine Nz_in (by omega) ?_))
  refine Loop_intro (fun s : Nat × List (Nat × Nat) × Nat => [(17, .int .i64 (s.1 : Int)), (6, eV s.2.2)]) (fun s w => s.1 ≤ xs.length ∧ (∃ k, Grows ps s.2.1 k ∧ k ≤ s.1) ∧ s.2.2 / 2 < s.2.1.length ∧ andP s.2.1 s.2.2 (xs.drop s.1) = andP ps 1 xs ∧ Sep w0 w (gR b s.2.1 ins :: r)) (fun s => xs.length - s.1) (0, ps, 1) ⟨rfl, rfl, trivial⟩
    ⟨Nat.zero_le _, ⟨0, Grows.refl hgok.g 0, Nat.le_refl _⟩, one_there hgok.g, by rw [List.drop_zero], H⟩ ?_
  clear H H1
  rintro ⟨i, ps1, out⟩ w ⟨hi, ⟨k, hg, hk⟩, ho, he, H⟩
  simp only [] at hi hg hk ho he H ⊢
  have hgl := hg.len
  refine Br_dec (fun k1 => ?_) (fun k1 => ?_)
  · have hlt : i < xs.length := by omega
    have hsrc := hs (SepU.mk hp H)
    obtain ⟨sb, so, rfl⟩ := hsrc.addr (by rw [List.length_map]; omega)
    refine Ix_in i rfl hlt ?_
    have hxi : xs[i]? = some xs[i] := List.getElem?_eq_getElem hlt
    have hx1 := hx _ (List.getElem_mem hlt)
    refine Ld_src (j := i) hsrc (v := eV xs[i]) (by rw [List.getElem?_map, hxi]; rfl) ?_
    (repeat ((try conv => whnf); first | refine Join_dup ?_ | (refine Br_gate ?_; first | with_reducible refine Br_not ?_ | refine xB ?_ | refine xC ?_) | (refine Ld_gate ?_; refine xL ?_) | (refine LdN_gate ?_; refine xM ?_) | (refine St_gate ?_; refine xS ?_; clear H; intro w H) | (refine StN_gate ?_; refine xN ?_; clear H; intro w H) | (refine Kept_gate ?_; refine xK ?_) | (refine Ar_gate ?_; first | (with_reducible refine Ar_halfU (by omega) ?_) | refine xA ?_) | (first | with_reducible refine Eqv_flip (by omega) ?_ | with_reducible refine Eqv_odd ?_ | refine Eqv_in ?_) | refine Do_ptr_eq_nil tok rfl ?_ | refine Do_ptr_ne_nil tok rfl ?_ | refine Do_nil_eq_nil tok rfl ?_ | refine Nn_in (by omega) ?_ | refine Nz_in (by omega) ?_))
    refine Call_of (gBoth H (.head _) ho (by omega) (by omega)) ?_
    have hm1 := both_made hg.g ho (show xs[i] / 2 < ps1.length by omega) (by omega)
    clear H
    rintro _ w ⟨rfl, H⟩
    replace H := H _ .head
    (repeat ((try conv => whnf); first | refine Join_dup ?_ | (refine Br_gate ?_; first | with_reducible refine Br_not ?_ | refine xB ?_ | refine xC ?_) | (refine Ld_gate ?_; refine xL ?_) | (refine LdN_gate ?_; refine xM ?_) | (refine St_gate ?_; refine xS ?_; clear H; intro w H) | (refine StN_gate ?_; refine xN ?_; clear H; intro w H) | (refine Kept_gate ?_; refine xK ?_) | (refine Ar_gate ?_; first | (with_reducible refine Ar_halfU (by omega) ?_) | refine xA ?_) | (first | with_reducible refine Eqv_flip (by omega) ?_ | with_reducible refine Eqv_odd ?_ | refine Eqv_in ?_) | refine Do_ptr_eq_nil tok rfl ?_ | refine Do_ptr_ne_nil tok rfl ?_ | refine Do_nil_eq_nil tok rfl ?_ | refine Nn_in (by omega) ?_ | refine Nz_in (by omega) ?_))
    refine ⟨(i + 1, (bothP ps1 out xs[i]).1, (bothP ps1 out xs[i]).2), ⟨congrArg some (vint (by simp)), rfl, trivial⟩, ⟨by omega, ⟨k + 1, hg.trans hm1.grows, by simp; omega⟩, hm1.there, ?_, H⟩, by simp; omega⟩
    rw [← he, List.drop_eq_getElem_cons hlt]
    rfl
  · have : i = xs.length := by omega
    subst this
    rw [List.drop_length] at he
    simp only [andP] at he
    (repeat ((try conv => whnf); first | refine Join_dup ?_ | (refine Br_gate ?_; first | with_reducible refine Br_not ?_ | refine xB ?_ | refine xC ?_) | (refine Ld_gate ?_; refine xL ?_) | (refine LdN_gate ?_; refine xM ?_) | (refine St_gate ?_; refine xS ?_; clear H; intro w H) | (refine StN_gate ?_; refine xN ?_; clear H; intro w H) | (refine Kept_gate ?_; refine xK ?_) | (refine Ar_gate ?_; first | (with_reducible refine Ar_halfU (by omega) ?_) | refine xA ?_) | (first | with_reducible refine Eqv_flip (by omega) ?_ | with_reducible refine Eqv_odd ?_ | refine Eqv_in ?_) | refine Do_ptr_eq_nil tok rfl ?_ | refine Do_ptr_ne_nil tok rfl ?_ | refine Do_nil_eq_nil tok rfl ?_ | refine Nn_in (by omega) ?_ | refine Nz_in (by omega) ?_))
    exact Ret_in ⟨by rw [← he]; rfl, SepU.mk hp (by rw [← he]; exact H)⟩

theorem gAnd_no (H : Sep w0 w l) (hm : gR b ps ins ∈ l) {xs : List Nat} {a : Option Addr} {c : Nat} (hs : Src w a xs.length 1 (xs.map eV))
    (hx : allIn ps xs = false) (hl : xs.length ≤ maxLen) (hb : ∀ x ∈ xs, x ≤ 4294967295) :
    Does Try.prog 22 #[.pointer (some ⟨b, 0, none⟩), .slice a xs.length c] w fun v w' => v = .tuple #[eV 0, .int .i64 101] ∧ Sep w0 w' l := by
  refine Does_intro tok (Try.call22 _ _) Try.func22 rfl (by rfl) ?_
  (repeat ((try conv => whnf); first | refine Join_dup ?_ | (refine Br_gate ?_; first | with_reducible refine Br_not ?_ | refine xB ?_ | refine xC ?_) | (refine Ld_gate ?_; refine xL ?_) | (refine LdN_gate ?_; refine xM ?_) | (refine St_gate ?_; refine xS ?_; clear H; intro w H) | (refine StN_gate ?_; refine xN ?_; clear H; intro w H) | (refine Kept_gate ?_; refine xK ?_) | (refine Ar_gate ?_; first | (with_reducible refine Ar_halfU (by omega) ?_) | refine xA ?_) | (first | with_reducible refine Eqv_flip (by omega) ?_ | with_reducible refine Eqv_odd ?_ | refine Eqv_in ?_) | refine Do_ptr_eq_nil tok rfl ?_ | refine Do_ptr_ne_nil tok rfl ?_ | refine Do_nil_eq_nil tok rfl ?_ | refine Nn_in (by omega) ?_ | refine Nz_in (by omega) ?_))
  refine Call_of (gThere H hm (xs := xs) hs hb hl) ?_
  rintro _ w ⟨rfl, H1⟩
  rw [hx]
  (repeat ((try conv => whnf); first | refine Join_dup ?_ | (refine Br_gate ?_; first | with_reducible refine Br_not ?_ | refine xB ?_ | refine xC ?_) | (refine Ld_gate ?_; refine xL ?_) | (refine LdN_gate ?_; refine xM ?_) | (refine St_gate ?_; refine xS ?_; clear H; intro w H) | (refine StN_gate ?_; refine xN ?_; clear H; intro w H) | (refine Kept_gate ?_; refine xK ?_) | (refine Ar_gate ?_; first | (with_reducible refine Ar_halfU (by omega) ?_) | refine xA ?_) | (first | with_reducible refine Eqv_flip (by omega) ?_ | with_reducible refine Eqv_odd ?_ | refine Eqv_in ?_) | refine Do_ptr_eq_nil tok rfl ?_ | refine Do_ptr_ne_nil tok rfl ?_ | refine Do_nil_eq_nil tok rfl ?_ | refine Nn_in (by omega) ?_ | refine Nz_in (by omega) ?_))
  exact Ret_in ⟨rfl, H.add H1⟩

/-- Or: of a row of edges, wherever it lies. -/
theorem gOr (H : Sep w0 w l) (hm : gR b ps ins ∈ l) {xs : List Nat} {a : Option Addr} {c : Nat} (hs : ∀ {w' : World} {l' : List Res}, Sep w0 w' (l' ++ l) → Src w' a xs.length 1 (xs.map eV))
    (hx : ∀ a ∈ xs, a / 2 < ps.length) (hf : ps.length + xs.length ≤ 1048576) :
    Does Try.prog 27 #[.pointer (some ⟨b, 0, none⟩), .slice a xs.length c] w fun v w' => v = .tuple #[eV (orP ps xs).2, .int .i64 0] ∧ SepU w0 w' l (gR b ps ins) (gR b (orP ps xs).1 ins) := by
  have hgok := graphOk H hm
  have hmx := hgok.max
  have hpos := hgok.g.pos
  refine Does_intro tok (Try.call27 _ _) Try.func27 rfl (by rfl) ?_
  (repeat ((try conv => whnf); first | refine Join_dup ?_ | (refine Br_gate ?_; first | with_reducible refine Br_not ?_ | refine xB ?_ | refine xC ?_) | (refine Ld_gate ?_; refine xL ?_) | (refine LdN_gate ?_; refine xM ?_) | (refine St_gate ?_; refine xS ?_; clear H; intro w H) | (refine StN_gate ?_; refine xN ?_; clear H; intro w H) | (refine Kept_gate ?_; refine xK ?_) | (refine Ar_gate ?_; first | (with_reducible refine Ar_halfU (by omega) ?_) | refine xA ?_) | (first | with_reducible refine Eqv_flip (by omega) ?_ | with_reducible refine Eqv_odd ?_ | refine Eqv_in ?_) | refine Do_ptr_eq_nil tok rfl ?_ | refine Do_ptr_ne_nil tok rfl ?_ | refine Do_nil_eq_nil tok rfl ?_ | refine Nn_in (by omega) ?_ | refine Nz_in (by omega) ?_))
  refine make_sep (el := 25) tok H rfl rfl rfl rfl rfl (by decide) 0 xs.length rfl rfl (by omega) (by omega) (by unfold maxLen; omega) fun tb w H => ?_
  refine Loop_intro (fun s : Nat × Option Addr × Nat => [(16, .int .i64 (s.1 : Int)), (6, .slice s.2.1 s.1 s.2.2)]) (fun s w => s.1 ≤ xs.length ∧ Sep w0 w (ownR s.2.1 s.1 s.2.2 25 1 (((xs.map flip).take s.1).map eV) :: l)) (fun s => xs.length - s.1) (0, some ⟨tb, 0, none⟩, xs.length) ⟨rfl, rfl, trivial⟩
    ⟨Nat.zero_le _, H⟩ ?_
  clear H
  rintro ⟨i, ta, tc⟩ w ⟨hi, H⟩
  simp only [] at hi H ⊢
  refine Br_dec (fun k1 => ?_) (fun k1 => ?_)
  · have hlt : i < xs.length := by omega
    have hsrc := hs (l' := [_]) H
    obtain ⟨sb, so, rfl⟩ := hsrc.addr (by rw [List.length_map]; omega)
    refine Ix_in i rfl hlt ?_
    have hxi : xs[i]? = some xs[i] := List.getElem?_eq_getElem hlt
    have hx1 := hx _ (List.getElem_mem hlt)
    refine Ld_src (j := i) hsrc (v := eV xs[i]) (by rw [List.getElem?_map, hxi]; rfl) ?_
    (repeat ((try conv => whnf); first | refine Join_dup ?_ | (refine Br_gate ?_; first | with_reducible refine Br_not ?_ | refine xB ?_ | refine xC ?_) | (refine Ld_gate ?_; refine xL ?_) | (refine LdN_gate ?_; refine xM ?_) | (refine St_gate ?_; refine xS ?_; clear H; intro w H) | (refine StN_gate ?_; refine xN ?_; clear H; intro w H) | (refine Kept_gate ?_; refine xK ?_) | (refine Ar_gate ?_; first | (with_reducible refine Ar_halfU (by omega) ?_) | refine xA ?_) | (first | with_reducible refine Eqv_flip (by omega) ?_ | with_reducible refine Eqv_odd ?_ | refine Eqv_in ?_) | refine Do_ptr_eq_nil tok rfl ?_ | refine Do_ptr_ne_nil tok rfl ?_ | refine Do_nil_eq_nil tok rfl ?_ | refine Nn_in (by omega) ?_ | refine Nz_in (by omega) ?_))
    (refine Nw_sep H ?_; clear H; intro nb w H; (try simp only [Value.cells, List.toList_toArray, List.append_nil, List.cons_append, List.nil_append] at H))
    (repeat ((try conv => whnf); first | refine Join_dup ?_ | (refine Br_gate ?_; first | with_reducible refine Br_not ?_ | refine xB ?_ | refine xC ?_) | (refine Ld_gate ?_; refine xL ?_) | (refine LdN_gate ?_; refine xM ?_) | (refine St_gate ?_; refine xS ?_; clear H; intro w H) | (refine StN_gate ?_; refine xN ?_; clear H; intro w H) | (refine Kept_gate ?_; refine xK ?_) | (refine Ar_gate ?_; first | (with_reducible refine Ar_halfU (by omega) ?_) | refine xA ?_) | (first | with_reducible refine Eqv_flip (by omega) ?_ | with_reducible refine Eqv_odd ?_ | refine Eqv_in ?_) | refine Do_ptr_eq_nil tok rfl ?_ | refine Do_ptr_ne_nil tok rfl ?_ | refine Do_nil_eq_nil tok rfl ?_ | refine Nn_in (by omega) ?_ | refine Nz_in (by omega) ?_))
    (refine DoN_gate ?_; refine append_one tok H rfl rfl rfl rfl rfl (by decide) (by repeat first | exact List.Mem.head _ | refine List.Mem.tail _ ?_) (m := 1) rfl (by simp [oneCell]) (by omega) (by unfold maxLen; omega) ?_; clear H; intro ta' tc' w H; replace H := H _ (by repeat first | exact Upd.head | apply Upd.tail))
    (repeat ((try conv => whnf); first | refine Join_dup ?_ | (refine Br_gate ?_; first | with_reducible refine Br_not ?_ | refine xB ?_ | refine xC ?_) | (refine Ld_gate ?_; refine xL ?_) | (refine LdN_gate ?_; refine xM ?_) | (refine St_gate ?_; refine xS ?_; clear H; intro w H) | (refine StN_gate ?_; refine xN ?_; clear H; intro w H) | (refine Kept_gate ?_; refine xK ?_) | (refine Ar_gate ?_; first | (with_reducible refine Ar_halfU (by omega) ?_) | refine xA ?_) | (first | with_reducible refine Eqv_flip (by omega) ?_ | with_reducible refine Eqv_odd ?_ | refine Eqv_in ?_) | refine Do_ptr_eq_nil tok rfl ?_ | refine Do_ptr_ne_nil tok rfl ?_ | refine Do_nil_eq_nil tok rfl ?_ | refine Nn_in (by omega) ?_ | refine Nz_in (by omega) ?_))
    refine ⟨(i + 1, ta', tc'), ⟨congrArg some (vint (by simp)), rfl, trivial⟩, ⟨by omega, ?_⟩, by simp; omega⟩
    have e : ((xs.map flip).take i).map eV ++ [eV (flip xs[i])] = ((xs.map flip).take (i + 1)).map eV := by
      rw [List.take_add_one, List.getElem?_map, hxi]; simp
    rw [← e]
    exact H
  · have : i = xs.length := by omega
    subst this
    rw [← List.length_map (f := flip), List.take_length] at H
    (repeat ((try conv => whnf); first | refine Join_dup ?_ | (refine Br_gate ?_; first | with_reducible refine Br_not ?_ | refine xB ?_ | refine xC ?_) | (refine Ld_gate ?_; refine xL ?_) | (refine LdN_gate ?_; refine xM ?_) | (refine St_gate ?_; refine xS ?_; clear H; intro w H) | (refine StN_gate ?_; refine xN ?_; clear H; intro w H) | (refine Kept_gate ?_; refine xK ?_) | (refine Ar_gate ?_; first | (with_reducible refine Ar_halfU (by omega) ?_) | refine xA ?_) | (first | with_reducible refine Eqv_flip (by omega) ?_ | with_reducible refine Eqv_odd ?_ | refine Eqv_in ?_) | refine Do_ptr_eq_nil tok rfl ?_ | refine Do_ptr_ne_nil tok rfl ?_ | refine Do_nil_eq_nil tok rfl ?_ | refine Nn_in (by omega) ?_ | refine Nz_in (by omega) ?_))
    rw [← List.length_map (f := flip)] at hf
    have hflip : ∀ a ∈ xs.map flip, a / 2 < ps.length := by
      intro a ha
      obtain ⟨x, hx', rfl⟩ := List.mem_map.1 ha
      rw [flip_div]; exact hx x hx'
    have hm1 := and_made1 (xs := xs.map flip) hgok.g hflip hf
    have hl1 := hm1.grows.len
    have ht1 := hm1.there
    rw [← List.length_map (f := flip)]
    refine Call_of (gAnd H (.tail _ hm) (xs := xs.map flip) (fun h => Sep.srcM (h _ (.tail (upd_of hm).choose_spec)) (.head _)) hflip hf) ?_
    clear H
    rintro _ w ⟨rfl, H⟩
    (repeat ((try conv => whnf); first | refine Join_dup ?_ | (refine Br_gate ?_; first | with_reducible refine Br_not ?_ | refine xB ?_ | refine xC ?_) | (refine Ld_gate ?_; refine xL ?_) | (refine LdN_gate ?_; refine xM ?_) | (refine St_gate ?_; refine xS ?_; clear H; intro w H) | (refine StN_gate ?_; refine xN ?_; clear H; intro w H) | (refine Kept_gate ?_; refine xK ?_) | (refine Ar_gate ?_; first | (with_reducible refine Ar_halfU (by omega) ?_) | refine xA ?_) | (first | with_reducible refine Eqv_flip (by omega) ?_ | with_reducible refine Eqv_odd ?_ | refine Eqv_in ?_) | refine Do_ptr_eq_nil tok rfl ?_ | refine Do_ptr_ne_nil tok rfl ?_ | refine Do_nil_eq_nil tok rfl ?_ | refine Nn_in (by omega) ?_ | refine Nz_in (by omega) ?_))
    exact Ret_in ⟨rfl, fun l' hu => (H _ (.tail hu)).tail⟩

theorem gIf (H : Sep w0 w l) (hm : gR b ps ins ∈ l) {c x y : Nat} (hc : c / 2 < ps.length) (hx : x / 2 < ps.length) (hy : y / 2 < ps.length) (hf : ps.length + 6 ≤ 1048576) :
    Does Try.prog 36 #[.pointer (some ⟨b, 0, none⟩), eV c, eV x, eV y] w fun v w' => v = .tuple #[eV (ifP ps c x y).2, .int .i64 0] ∧ SepU w0 w' l (gR b ps ins) (gR b (ifP ps c x y).1 ins) := by
  have hgok := graphOk H hm
  have hmx := hgok.max
  have hpos := hgok.g.pos
  obtain ⟨r, hp⟩ := mem_cut hm
  replace H := H.perm hp
  have hthree : ∀ a ∈ [c, x, y], a / 2 < ps.length := by simp; exact ⟨hc, hx, hy⟩
  have htwo : ∀ a ∈ [c, x], a / 2 < ps.length := by simp; exact ⟨hc, hx⟩
  have m1 := and_made1 (xs := [c, x]) hgok.g htwo (by simp; omega)
  have l1 := m1.grows.len
  have htwo2 : ∀ a ∈ [flip c, y], a / 2 < (andP ps 1 [c, x]).1.length := by simp [flip_div]; omega
  have m2 := and_made1 (xs := [flip c, y]) m1.grows.g htwo2 (by simp at l1 ⊢; omega)
  have l2 := m2.grows.len
  have t1 := m1.there
  have t2 := m2.there
  simp only [List.length_cons, List.length_nil] at l1 l2
  refine Does_intro tok (Try.call36 _ _) Try.func36 rfl (by rfl) ?_
  (repeat ((try conv => whnf); first | refine Join_dup ?_ | (refine Br_gate ?_; first | with_reducible refine Br_not ?_ | refine xB ?_ | refine xC ?_) | (refine Ld_gate ?_; refine xL ?_) | (refine LdN_gate ?_; refine xM ?_) | (refine St_gate ?_; refine xS ?_; clear H; intro w H) | (refine StN_gate ?_; refine xN ?_; clear H; intro w H) | (refine Kept_gate ?_; refine xK ?_) | (refine Ar_gate ?_; first | (with_reducible refine Ar_halfU (by omega) ?_) | refine xA ?_) | (first | with_reducible refine Eqv_flip (by omega) ?_ | with_reducible refine Eqv_odd ?_ | refine Eqv_in ?_) | refine Do_ptr_eq_nil tok rfl ?_ | refine Do_ptr_ne_nil tok rfl ?_ | refine Do_nil_eq_nil tok rfl ?_ | refine Nn_in (by omega) ?_ | refine Nz_in (by omega) ?_))
  (refine Nw_sep H ?_; clear H; intro s1 w H; (try simp only [Value.cells, List.toList_toArray, List.append_nil, List.cons_append, List.nil_append] at H))
  (repeat ((try conv => whnf); first | refine Join_dup ?_ | (refine Br_gate ?_; first | with_reducible refine Br_not ?_ | refine xB ?_ | refine xC ?_) | (refine Ld_gate ?_; refine xL ?_) | (refine LdN_gate ?_; refine xM ?_) | (refine St_gate ?_; refine xS ?_; clear H; intro w H) | (refine StN_gate ?_; refine xN ?_; clear H; intro w H) | (refine Kept_gate ?_; refine xK ?_) | (refine Ar_gate ?_; first | (with_reducible refine Ar_halfU (by omega) ?_) | refine xA ?_) | (first | with_reducible refine Eqv_flip (by omega) ?_ | with_reducible refine Eqv_odd ?_ | refine Eqv_in ?_) | refine Do_ptr_eq_nil tok rfl ?_ | refine Do_ptr_ne_nil tok rfl ?_ | refine Do_nil_eq_nil tok rfl ?_ | refine Nn_in (by omega) ?_ | refine Nz_in (by omega) ?_))
  refine Call_of (gThere H (xs := [c, x, y]) (.tail _ (.head _)) (Sep.srcCM H 3 1 (.head _) rfl (by unfold maxLen; omega)) (fun a ha => by have := hthree a ha; omega) (by unfold maxLen; simp)) ?_
  rintro _ w ⟨rfl, H1⟩
  replace H := (H.add H1).tail
  rw [allIn_iff.2 hthree]
  (repeat ((try conv => whnf); first | refine Join_dup ?_ | (refine Br_gate ?_; first | with_reducible refine Br_not ?_ | refine xB ?_ | refine xC ?_) | (refine Ld_gate ?_; refine xL ?_) | (refine LdN_gate ?_; refine xM ?_) | (refine St_gate ?_; refine xS ?_; clear H; intro w H) | (refine StN_gate ?_; refine xN ?_; clear H; intro w H) | (refine Kept_gate ?_; refine xK ?_) | (refine Ar_gate ?_; first | (with_reducible refine Ar_halfU (by omega) ?_) | refine xA ?_) | (first | with_reducible refine Eqv_flip (by omega) ?_ | with_reducible refine Eqv_odd ?_ | refine Eqv_in ?_) | refine Do_ptr_eq_nil tok rfl ?_ | refine Do_ptr_ne_nil tok rfl ?_ | refine Do_nil_eq_nil tok rfl ?_ | refine Nn_in (by omega) ?_ | refine Nz_in (by omega) ?_))
  (refine Nw_sep H ?_; clear H; intro s2 w H; (try simp only [Value.cells, List.toList_toArray, List.append_nil, List.cons_append, List.nil_append] at H))
  (repeat ((try conv => whnf); first | refine Join_dup ?_ | (refine Br_gate ?_; first | with_reducible refine Br_not ?_ | refine xB ?_ | refine xC ?_) | (refine Ld_gate ?_; refine xL ?_) | (refine LdN_gate ?_; refine xM ?_) | (refine St_gate ?_; refine xS ?_; clear H; intro w H) | (refine StN_gate ?_; refine xN ?_; clear H; intro w H) | (refine Kept_gate ?_; refine xK ?_) | (refine Ar_gate ?_; first | (with_reducible refine Ar_halfU (by omega) ?_) | refine xA ?_) | (first | with_reducible refine Eqv_flip (by omega) ?_ | with_reducible refine Eqv_odd ?_ | refine Eqv_in ?_) | refine Do_ptr_eq_nil tok rfl ?_ | refine Do_ptr_ne_nil tok rfl ?_ | refine Do_nil_eq_nil tok rfl ?_ | refine Nn_in (by omega) ?_ | refine Nz_in (by omega) ?_))
  refine Call_of (gAnd H (.tail _ (.head _)) (xs := [c, x]) (fun h => Sep.srcCM (h _ (.tail .head)) 2 1 (.head _) rfl (by unfold maxLen; omega)) htwo (by simp; omega)) ?_
  clear H H1
  rintro _ w ⟨rfl, H⟩
  replace H := (H _ (.tail .head)).tail
  (repeat ((try conv => whnf); first | refine Join_dup ?_ | (refine Br_gate ?_; first | with_reducible refine Br_not ?_ | refine xB ?_ | refine xC ?_) | (refine Ld_gate ?_; refine xL ?_) | (refine LdN_gate ?_; refine xM ?_) | (refine St_gate ?_; refine xS ?_; clear H; intro w H) | (refine StN_gate ?_; refine xN ?_; clear H; intro w H) | (refine Kept_gate ?_; refine xK ?_) | (refine Ar_gate ?_; first | (with_reducible refine Ar_halfU (by omega) ?_) | refine xA ?_) | (first | with_reducible refine Eqv_flip (by omega) ?_ | with_reducible refine Eqv_odd ?_ | refine Eqv_in ?_) | refine Do_ptr_eq_nil tok rfl ?_ | refine Do_ptr_ne_nil tok rfl ?_ | refine Do_nil_eq_nil tok rfl ?_ | refine Nn_in (by omega) ?_ | refine Nz_in (by omega) ?_))
  (refine Nw_sep H ?_; clear H; intro s3 w H; (try simp only [Value.cells, List.toList_toArray, List.append_nil, List.cons_append, List.nil_append] at H))
  (repeat ((try conv => whnf); first | refine Join_dup ?_ | (refine Br_gate ?_; first | with_reducible refine Br_not ?_ | refine xB ?_ | refine xC ?_) | (refine Ld_gate ?_; refine xL ?_) | (refine LdN_gate ?_; refine xM ?_) | (refine St_gate ?_; refine xS ?_; clear H; intro w H) | (refine StN_gate ?_; refine xN ?_; clear H; intro w H) | (refine Kept_gate ?_; refine xK ?_) | (refine Ar_gate ?_; first | (with_reducible refine Ar_halfU (by omega) ?_) | refine xA ?_) | (first | with_reducible refine Eqv_flip (by omega) ?_ | with_reducible refine Eqv_odd ?_ | refine Eqv_in ?_) | refine Do_ptr_eq_nil tok rfl ?_ | refine Do_ptr_ne_nil tok rfl ?_ | refine Do_nil_eq_nil tok rfl ?_ | refine Nn_in (by omega) ?_ | refine Nz_in (by omega) ?_))
  refine Call_of (gAnd H (.tail _ (.head _)) (xs := [flip c, y]) (fun h => Sep.srcCM (h _ (.tail .head)) 2 1 (.head _) rfl (by unfold maxLen; omega)) htwo2 (by simp; omega)) ?_
  clear H
  rintro _ w ⟨rfl, H⟩
  replace H := (H _ (.tail .head)).tail
  (repeat ((try conv => whnf); first | refine Join_dup ?_ | (refine Br_gate ?_; first | with_reducible refine Br_not ?_ | refine xB ?_ | refine xC ?_) | (refine Ld_gate ?_; refine xL ?_) | (refine LdN_gate ?_; refine xM ?_) | (refine St_gate ?_; refine xS ?_; clear H; intro w H) | (refine StN_gate ?_; refine xN ?_; clear H; intro w H) | (refine Kept_gate ?_; refine xK ?_) | (refine Ar_gate ?_; first | (with_reducible refine Ar_halfU (by omega) ?_) | refine xA ?_) | (first | with_reducible refine Eqv_flip (by omega) ?_ | with_reducible refine Eqv_odd ?_ | refine Eqv_in ?_) | refine Do_ptr_eq_nil tok rfl ?_ | refine Do_ptr_ne_nil tok rfl ?_ | refine Do_nil_eq_nil tok rfl ?_ | refine Nn_in (by omega) ?_ | refine Nz_in (by omega) ?_))
  (refine Nw_sep H ?_; clear H; intro s4 w H; (try simp only [Value.cells, List.toList_toArray, List.append_nil, List.cons_append, List.nil_append] at H))
  (repeat ((try conv => whnf); first | refine Join_dup ?_ | (refine Br_gate ?_; first | with_reducible refine Br_not ?_ | refine xB ?_ | refine xC ?_) | (refine Ld_gate ?_; refine xL ?_) | (refine LdN_gate ?_; refine xM ?_) | (refine St_gate ?_; refine xS ?_; clear H; intro w H) | (refine StN_gate ?_; refine xN ?_; clear H; intro w H) | (refine Kept_gate ?_; refine xK ?_) | (refine Ar_gate ?_; first | (with_reducible refine Ar_halfU (by omega) ?_) | refine xA ?_) | (first | with_reducible refine Eqv_flip (by omega) ?_ | with_reducible refine Eqv_odd ?_ | refine Eqv_in ?_) | refine Do_ptr_eq_nil tok rfl ?_ | refine Do_ptr_ne_nil tok rfl ?_ | refine Do_nil_eq_nil tok rfl ?_ | refine Nn_in (by omega) ?_ | refine Nz_in (by omega) ?_))
  have htwo3 : ∀ a ∈ [(andP ps 1 [c, x]).2, (andP (andP ps 1 [c, x]).1 1 [flip c, y]).2], a / 2 < (andP (andP ps 1 [c, x]).1 1 [flip c, y]).1.length := by
    simp only [List.mem_cons, List.not_mem_nil, or_false]
    rintro a (rfl | rfl)
    · omega
    · exact t2
  refine Call_of (gOr H (.tail _ (.head _)) (xs := [_, _]) (fun h => Sep.srcCM h 2 1 (List.mem_append_right _ (.head _)) rfl (by unfold maxLen; omega)) htwo3 (by simp; omega)) ?_
  clear H
  rintro _ w ⟨rfl, H⟩
  replace H := (H _ (.tail .head)).tail
  (repeat ((try conv => whnf); first | refine Join_dup ?_ | (refine Br_gate ?_; first | with_reducible refine Br_not ?_ | refine xB ?_ | refine xC ?_) | (refine Ld_gate ?_; refine xL ?_) | (refine LdN_gate ?_; refine xM ?_) | (refine St_gate ?_; refine xS ?_; clear H; intro w H) | (refine StN_gate ?_; refine xN ?_; clear H; intro w H) | (refine Kept_gate ?_; refine xK ?_) | (refine Ar_gate ?_; first | (with_reducible refine Ar_halfU (by omega) ?_) | refine xA ?_) | (first | with_reducible refine Eqv_flip (by omega) ?_ | with_reducible refine Eqv_odd ?_ | refine Eqv_in ?_) | refine Do_ptr_eq_nil tok rfl ?_ | refine Do_ptr_ne_nil tok rfl ?_ | refine Do_nil_eq_nil tok rfl ?_ | refine Nn_in (by omega) ?_ | refine Nz_in (by omega) ?_))
  exact Ret_in ⟨rfl, SepU.mk hp H⟩

theorem gIf_no (H : Sep w0 w l) (hm : gR b ps ins ∈ l) {c x y : Nat} (hb : c ≤ 4294967295 ∧ x ≤ 4294967295 ∧ y ≤ 4294967295) (hn : allIn ps [c, x, y] = false) :
    Does Try.prog 36 #[.pointer (some ⟨b, 0, none⟩), eV c, eV x, eV y] w fun v w' => v = .tuple #[eV 0, .int .i64 101] ∧ Sep w0 w' l := by
  refine Does_intro tok (Try.call36 _ _) Try.func36 rfl (by rfl) ?_
  (repeat ((try conv => whnf); first | refine Join_dup ?_ | (refine Br_gate ?_; first | with_reducible refine Br_not ?_ | refine xB ?_ | refine xC ?_) | (refine Ld_gate ?_; refine xL ?_) | (refine LdN_gate ?_; refine xM ?_) | (refine St_gate ?_; refine xS ?_; clear H; intro w H) | (refine StN_gate ?_; refine xN ?_; clear H; intro w H) | (refine Kept_gate ?_; refine xK ?_) | (refine Ar_gate ?_; first | (with_reducible refine Ar_halfU (by omega) ?_) | refine xA ?_) | (first | with_reducible refine Eqv_flip (by omega) ?_ | with_reducible refine Eqv_odd ?_ | refine Eqv_in ?_) | refine Do_ptr_eq_nil tok rfl ?_ | refine Do_ptr_ne_nil tok rfl ?_ | refine Do_nil_eq_nil tok rfl ?_ | refine Nn_in (by omega) ?_ | refine Nz_in (by omega) ?_))
  (refine Nw_sep H ?_; clear H; intro s1 w H; (try simp only [Value.cells, List.toList_toArray, List.append_nil, List.cons_append, List.nil_append] at H))
  (repeat ((try conv => whnf); first | refine Join_dup ?_ | (refine Br_gate ?_; first | with_reducible refine Br_not ?_ | refine xB ?_ | refine xC ?_) | (refine Ld_gate ?_; refine xL ?_) | (refine LdN_gate ?_; refine xM ?_) | (refine St_gate ?_; refine xS ?_; clear H; intro w H) | (refine StN_gate ?_; refine xN ?_; clear H; intro w H) | (refine Kept_gate ?_; refine xK ?_) | (refine Ar_gate ?_; first | (with_reducible refine Ar_halfU (by omega) ?_) | refine xA ?_) | (first | with_reducible refine Eqv_flip (by omega) ?_ | with_reducible refine Eqv_odd ?_ | refine Eqv_in ?_) | refine Do_ptr_eq_nil tok rfl ?_ | refine Do_ptr_ne_nil tok rfl ?_ | refine Do_nil_eq_nil tok rfl ?_ | refine Nn_in (by omega) ?_ | refine Nz_in (by omega) ?_))
  refine Call_of (gThere H (xs := [c, x, y]) (.tail _ hm) (Sep.srcCM H 3 1 (.head _) rfl (by unfold maxLen; omega)) (by simp; omega) (by unfold maxLen; simp)) ?_
  rintro _ w ⟨rfl, H1⟩
  replace H := (H.add H1).tail
  rw [hn]
  (repeat ((try conv => whnf); first | refine Join_dup ?_ | (refine Br_gate ?_; first | with_reducible refine Br_not ?_ | refine xB ?_ | refine xC ?_) | (refine Ld_gate ?_; refine xL ?_) | (refine LdN_gate ?_; refine xM ?_) | (refine St_gate ?_; refine xS ?_; clear H; intro w H) | (refine StN_gate ?_; refine xN ?_; clear H; intro w H) | (refine Kept_gate ?_; refine xK ?_) | (refine Ar_gate ?_; first | (with_reducible refine Ar_halfU (by omega) ?_) | refine xA ?_) | (first | with_reducible refine Eqv_flip (by omega) ?_ | with_reducible refine Eqv_odd ?_ | refine Eqv_in ?_) | refine Do_ptr_eq_nil tok rfl ?_ | refine Do_ptr_ne_nil tok rfl ?_ | refine Do_nil_eq_nil tok rfl ?_ | refine Nn_in (by omega) ?_ | refine Nz_in (by omega) ?_))
  exact Ret_in ⟨rfl, H⟩

theorem gSame (H : Sep w0 w l) (hm : gR b ps ins ∈ l) {x y : Nat} (hx : x / 2 < ps.length) (hy : y / 2 < ps.length) (hf : ps.length + 6 ≤ 1048576) :
    Does Try.prog 28 #[.pointer (some ⟨b, 0, none⟩), eV x, eV y] w fun v w' => v = .tuple #[eV (sameP ps x y).2, .int .i64 0] ∧ SepU w0 w' l (gR b ps ins) (gR b (sameP ps x y).1 ins) := by
  have hgok := graphOk H hm
  have hmx := hgok.max
  refine Does_intro tok (Try.call28 _ _) Try.func28 rfl (by rfl) ?_
  (repeat ((try conv => whnf); first | refine Join_dup ?_ | (refine Br_gate ?_; first | with_reducible refine Br_not ?_ | refine xB ?_ | refine xC ?_) | (refine Ld_gate ?_; refine xL ?_) | (refine LdN_gate ?_; refine xM ?_) | (refine St_gate ?_; refine xS ?_; clear H; intro w H) | (refine StN_gate ?_; refine xN ?_; clear H; intro w H) | (refine Kept_gate ?_; refine xK ?_) | (refine Ar_gate ?_; first | (with_reducible refine Ar_halfU (by omega) ?_) | refine xA ?_) | (first | with_reducible refine Eqv_flip (by omega) ?_ | with_reducible refine Eqv_odd ?_ | refine Eqv_in ?_) | refine Do_ptr_eq_nil tok rfl ?_ | refine Do_ptr_ne_nil tok rfl ?_ | refine Do_nil_eq_nil tok rfl ?_ | refine Nn_in (by omega) ?_ | refine Nz_in (by omega) ?_))
  (refine Nw_sep H ?_; clear H; intro s1 w H; (try simp only [Value.cells, List.toList_toArray, List.append_nil, List.cons_append, List.nil_append] at H))
  (repeat ((try conv => whnf); first | refine Join_dup ?_ | (refine Br_gate ?_; first | with_reducible refine Br_not ?_ | refine xB ?_ | refine xC ?_) | (refine Ld_gate ?_; refine xL ?_) | (refine LdN_gate ?_; refine xM ?_) | (refine St_gate ?_; refine xS ?_; clear H; intro w H) | (refine StN_gate ?_; refine xN ?_; clear H; intro w H) | (refine Kept_gate ?_; refine xK ?_) | (refine Ar_gate ?_; first | (with_reducible refine Ar_halfU (by omega) ?_) | refine xA ?_) | (first | with_reducible refine Eqv_flip (by omega) ?_ | with_reducible refine Eqv_odd ?_ | refine Eqv_in ?_) | refine Do_ptr_eq_nil tok rfl ?_ | refine Do_ptr_ne_nil tok rfl ?_ | refine Do_nil_eq_nil tok rfl ?_ | refine Nn_in (by omega) ?_ | refine Nz_in (by omega) ?_))
  refine Call_of (gThere H (xs := [y]) (.tail _ hm) (Sep.srcCM H 1 1 (.head _) rfl (by unfold maxLen; omega)) (by simp; omega) (by unfold maxLen; simp)) ?_
  rintro _ w ⟨rfl, H1⟩
  replace H := (H.add H1).tail
  rw [allIn_iff.2 (by simpa using hy)]
  (repeat ((try conv => whnf); first | refine Join_dup ?_ | (refine Br_gate ?_; first | with_reducible refine Br_not ?_ | refine xB ?_ | refine xC ?_) | (refine Ld_gate ?_; refine xL ?_) | (refine LdN_gate ?_; refine xM ?_) | (refine St_gate ?_; refine xS ?_; clear H; intro w H) | (refine StN_gate ?_; refine xN ?_; clear H; intro w H) | (refine Kept_gate ?_; refine xK ?_) | (refine Ar_gate ?_; first | (with_reducible refine Ar_halfU (by omega) ?_) | refine xA ?_) | (first | with_reducible refine Eqv_flip (by omega) ?_ | with_reducible refine Eqv_odd ?_ | refine Eqv_in ?_) | refine Do_ptr_eq_nil tok rfl ?_ | refine Do_ptr_ne_nil tok rfl ?_ | refine Do_nil_eq_nil tok rfl ?_ | refine Nn_in (by omega) ?_ | refine Nz_in (by omega) ?_))
  refine Call_of (gIf H hm hx hy (y := flip y) (by rw [flip_div]; exact hy) hf) ?_
  clear H H1
  rintro _ w ⟨rfl, H⟩
  (repeat ((try conv => whnf); first | refine Join_dup ?_ | (refine Br_gate ?_; first | with_reducible refine Br_not ?_ | refine xB ?_ | refine xC ?_) | (refine Ld_gate ?_; refine xL ?_) | (refine LdN_gate ?_; refine xM ?_) | (refine St_gate ?_; refine xS ?_; clear H; intro w H) | (refine StN_gate ?_; refine xN ?_; clear H; intro w H) | (refine Kept_gate ?_; refine xK ?_) | (refine Ar_gate ?_; first | (with_reducible refine Ar_halfU (by omega) ?_) | refine xA ?_) | (first | with_reducible refine Eqv_flip (by omega) ?_ | with_reducible refine Eqv_odd ?_ | refine Eqv_in ?_) | refine Do_ptr_eq_nil tok rfl ?_ | refine Do_ptr_ne_nil tok rfl ?_ | refine Do_nil_eq_nil tok rfl ?_ | refine Nn_in (by omega) ?_ | refine Nz_in (by omega) ?_))
  exact Ret_in ⟨rfl, H⟩

theorem gSame_no (H : Sep w0 w l) (hm : gR b ps ins ∈ l) {x y : Nat} (hb : y ≤ 4294967295) (hn : allIn ps [y] = false) :
    Does Try.prog 28 #[.pointer (some ⟨b, 0, none⟩), eV x, eV y] w fun v w' => v = .tuple #[eV 0, .int .i64 101] ∧ Sep w0 w' l := by
  refine Does_intro tok (Try.call28 _ _) Try.func28 rfl (by rfl) ?_
  (repeat ((try conv => whnf); first | refine Join_dup ?_ | (refine Br_gate ?_; first | with_reducible refine Br_not ?_ | refine xB ?_ | refine xC ?_) | (refine Ld_gate ?_; refine xL ?_) | (refine LdN_gate ?_; refine xM ?_) | (refine St_gate ?_; refine xS ?_; clear H; intro w H) | (refine StN_gate ?_; refine xN ?_; clear H; intro w H) | (refine Kept_gate ?_; refine xK ?_) | (refine Ar_gate ?_; first | (with_reducible refine Ar_halfU (by omega) ?_) | refine xA ?_) | (first | with_reducible refine Eqv_flip (by omega) ?_ | with_reducible refine Eqv_odd ?_ | refine Eqv_in ?_) | refine Do_ptr_eq_nil tok rfl ?_ | refine Do_ptr_ne_nil tok rfl ?_ | refine Do_nil_eq_nil tok rfl ?_ | refine Nn_in (by omega) ?_ | refine Nz_in (by omega) ?_))
  (refine Nw_sep H ?_; clear H; intro s1 w H; (try simp only [Value.cells, List.toList_toArray, List.append_nil, List.cons_append, List.nil_append] at H))
  (repeat ((try conv => whnf); first | refine Join_dup ?_ | (refine Br_gate ?_; first | with_reducible refine Br_not ?_ | refine xB ?_ | refine xC ?_) | (refine Ld_gate ?_; refine xL ?_) | (refine LdN_gate ?_; refine xM ?_) | (refine St_gate ?_; refine xS ?_; clear H; intro w H) | (refine StN_gate ?_; refine xN ?_; clear H; intro w H) | (refine Kept_gate ?_; refine xK ?_) | (refine Ar_gate ?_; first | (with_reducible refine Ar_halfU (by omega) ?_) | refine xA ?_) | (first | with_reducible refine Eqv_flip (by omega) ?_ | with_reducible refine Eqv_odd ?_ | refine Eqv_in ?_) | refine Do_ptr_eq_nil tok rfl ?_ | refine Do_ptr_ne_nil tok rfl ?_ | refine Do_nil_eq_nil tok rfl ?_ | refine Nn_in (by omega) ?_ | refine Nz_in (by omega) ?_))
  refine Call_of (gThere H (xs := [y]) (.tail _ hm) (Sep.srcCM H 1 1 (.head _) rfl (by unfold maxLen; omega)) (by simpa using hb) (by unfold maxLen; simp)) ?_
  rintro _ w ⟨rfl, H1⟩
  replace H := (H.add H1).tail
  rw [hn]
  (repeat ((try conv => whnf); first | refine Join_dup ?_ | (refine Br_gate ?_; first | with_reducible refine Br_not ?_ | refine xB ?_ | refine xC ?_) | (refine Ld_gate ?_; refine xL ?_) | (refine LdN_gate ?_; refine xM ?_) | (refine St_gate ?_; refine xS ?_; clear H; intro w H) | (refine StN_gate ?_; refine xN ?_; clear H; intro w H) | (refine Kept_gate ?_; refine xK ?_) | (refine Ar_gate ?_; first | (with_reducible refine Ar_halfU (by omega) ?_) | refine xA ?_) | (first | with_reducible refine Eqv_flip (by omega) ?_ | with_reducible refine Eqv_odd ?_ | refine Eqv_in ?_) | refine Do_ptr_eq_nil tok rfl ?_ | refine Do_ptr_ne_nil tok rfl ?_ | refine Do_nil_eq_nil tok rfl ?_ | refine Nn_in (by omega) ?_ | refine Nz_in (by omega) ?_))
  exact Ret_in ⟨rfl, H⟩
end
end Go.Proofs.Ytpllmfoaahaciaa
