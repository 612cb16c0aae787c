/- strconv.FormatInt and FormatBool. -/
import Derived.Test.YthpekiohalejmaaGreatDoorTreeX
import Derived.Test.YthpekiohalejmaaGreatDoorFmtI
set_option linter.unusedVariables false
set_option linter.unusedSimpArgs false
namespace Go.Vc
open Go
/-- A table of the library's own stays. -/
theorem TabIs.fr {P : Program} {w w' : World} {name : String} {k : IntKind} {zs : List Int} (h : Lib.TabIs P w name k zs) (f : Fr (fun _ => False) w w') : Lib.TabIs P w' name k zs := by
  unfold Lib.TabIs World.var? at *
  cases hg : P.globalNamed name with
  | none => simp [hg] at h
  | some g =>
    simp only [hg, Option.bind_some] at h ⊢
    have hlt : g < w.heap.size := by
      rcases Nat.lt_or_ge g w.heap.size with h' | h'
      · exact h'
      · rw [Array.getElem?_eq_none h'] at h; simp at h
    rw [f.old g hlt (fun h => h)]
    exact h
theorem Fr.grow (w : World) (k : Nat) (os : Array Obj) : Fr (fun _ => False) w (Go.Sort.grow (w.drewN k) os) := by
  have hb : ∀ b, b < w.heap.size → (Go.Sort.grow (w.drewN k) os).heap[b]? = w.heap[b]? := fun b h => Array.getElem?_append_left h
  refine ⟨rfl, rfl, ?_, fun b h _ => hb b h, fun x hx => ?_⟩
  · show w.heap.size ≤ (w.heap ++ os).size
    rw [Array.size_append]; omega
  · unfold World.frozen?
    rw [hb _ hx]
end Go.Vc
namespace Go.Proofs.YthpekiohalejmaaGreatDoor
open Go Go.Vc Go.Tree
set_option maxHeartbeats 4000000
set_option maxRecDepth 100000
def Pow (w : World) : Prop := Lib.TabIs Tryz.prog w "internal/strconv.uint64pow10" .u64 Lib.pow10Tab
theorem itoa_short {x : Int} (h1 : -9223372036854775808 ≤ x) (h2 : x ≤ 9223372036854775807) : (Lib.itoa x).length ≤ 21 := by
  have hn : ∀ u : Nat, u < 10 ^ 20 → Lib.nDigits u ≤ 20 := by
    intro u hu
    apply Classical.byContradiction
    intro hc
    have hp := Lib.nDigits_pos u
    have : ∀ (f u : Nat), u < f → Lib.nDigits u ≤ 20 ∨ 10 ^ 20 ≤ u := by
      intro f
      induction f with
      | zero => intro u h; omega
      | succ f ih =>
        intro u h
        by_cases h10 : u < 10
        · rw [Lib.nDigits_small h10]; omega
        · have : ∀ (k u : Nat), 20 < Lib.nDigits u → True := fun _ _ _ => trivial
          exact Classical.byCases (fun h3 : 10 ^ 20 ≤ u => .inr h3) fun h3 => .inl (by
            have h4 : ∀ (d u : Nat), u < 10 ^ d → 1 ≤ d → Lib.nDigits u ≤ d := by
              intro d
              induction d with
              | zero => intro u _ h; omega
              | succ d ihd =>
                intro u hu _
                by_cases hu10 : u < 10
                · rw [Lib.nDigits_small hu10]; omega
                · rw [Lib.nDigits_big hu10]
                  have : u / 10 < 10 ^ d := by rw [Nat.pow_succ] at hu; omega
                  have := ihd (u / 10) this (by
                    cases d with
                    | zero => omega
                    | succ d => omega)
                  omega
            exact h4 20 u (by omega) (by decide))
    rcases this (u + 1) u (by omega) with h | h
    · exact hc h
    · omega
  unfold Lib.itoa
  split
  · rw [List.length_cons, Lib.decDigits_length]
    have := hn x.natAbs (by omega)
    omega
  · rw [Lib.decDigits_length]
    have := hn x.toNat (by omega)
    omega
def itoaC (n : Int) : ByteArray := if -9223372036854775808 ≤ n ∧ n ≤ 9223372036854775807 then ⟨(Lib.itoa n).toArray⟩ else str []
theorem itoaC_size (n : Int) : (itoaC n).size ≤ 21 := by
  unfold itoaC
  split
  · rename_i h
    exact itoa_short h.1 h.2
  · decide
section
variable {w0 w : World} {l : List Res}
theorem rFmt {n : Int} (H : Sep w0 w l) (hp : Pow w0) (h0 : -9223372036854775808 ≤ n) (h1 : n ≤ 9223372036854775807) :
    Does Tryz.prog 53 #[.int .i64 n, .int .i64 10] w fun v w' => v = .string (itoaC n) ∧ Sep w0 w' l := by
  refine ⟨Tryz.call53 _ _, ?_⟩
  refine (Any.strconv_FormatInt_10 (P := Tryz.prog) (ρ := Tryz.fmtL_ren) Tryz.fmtL n h0 h1 w (TabIs.fr hp H.base)).mono ?_
  rintro e w' ⟨rfl, k, os, rfl⟩
  refine ⟨_, rfl, by unfold itoaC; rw [if_pos ⟨h0, h1⟩], H.fr (Fr.grow w k os)⟩
theorem rFmtBool (b : Bool) : Does Tryz.prog 63 #[.bool b] w fun v w' => v = .string (if b then str [116, 114, 117, 101] else str [102, 97, 108, 115, 101]) ∧ w = w' := by
  refine Does_intro tok (Tryz.call63 _ _) Tryz.func63 rfl (by rfl) ?_
  have hin : Does Tryz.prog 86 #[.bool b] w fun v w' => v = .string (if b then str [116, 114, 117, 101] else str [102, 97, 108, 115, 101]) ∧ w = w' := by
    refine Does_intro tok (Tryz.call86 _ _) Tryz.func86 rfl (by rfl) ?_
    cases b
    · (repeat first | refine goN ?_ | ((try conv => whnf); first | (refine Ar_gate ?_; first | (fail_if_success skip) | refine xA ?_) | (first | refine Do_str_eq ?_ | refine Do_str_ne ?_ | refine DoN_len tok rfl ?_ | refine Eqv_in ?_)) | ((try conv => whnf); (first | (refine St_gate ?_; refine xS ?_) | (refine StN_gate ?_; refine xN ?_)); clear H; intro w H))
      exact Ret_in ⟨rfl, rfl⟩
    · (repeat first | refine goN ?_ | ((try conv => whnf); first | (refine Ar_gate ?_; first | (fail_if_success skip) | refine xA ?_) | (first | refine Do_str_eq ?_ | refine Do_str_ne ?_ | refine DoN_len tok rfl ?_ | refine Eqv_in ?_)) | ((try conv => whnf); (first | (refine St_gate ?_; refine xS ?_) | (refine StN_gate ?_; refine xN ?_)); clear H; intro w H))
      exact Ret_in ⟨rfl, rfl⟩
  (repeat first | refine goN ?_ | ((try conv => whnf); first | (refine Ar_gate ?_; first | (fail_if_success skip) | refine xA ?_) | (first | refine Do_str_eq ?_ | refine Do_str_ne ?_ | refine DoN_len tok rfl ?_ | refine Eqv_in ?_)) | ((try conv => whnf); (first | (refine St_gate ?_; refine xS ?_) | (refine StN_gate ?_; refine xN ?_)); clear H; intro w H))
  refine Call_of hin ?_
  rintro _ _ ⟨rfl, rfl⟩
  (repeat first | refine goN ?_ | ((try conv => whnf); first | (refine Ar_gate ?_; first | (fail_if_success skip) | refine xA ?_) | (first | refine Do_str_eq ?_ | refine Do_str_ne ?_ | refine DoN_len tok rfl ?_ | refine Eqv_in ?_)) | ((try conv => whnf); (first | (refine St_gate ?_; refine xS ?_) | (refine StN_gate ?_; refine xN ?_)); clear H; intro w H))
  exact Ret_in ⟨rfl, rfl⟩
end
end Go.Proofs.YthpekiohalejmaaGreatDoor
