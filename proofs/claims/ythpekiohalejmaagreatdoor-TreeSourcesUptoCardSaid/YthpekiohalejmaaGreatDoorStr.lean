/- Strings: equal, put together, their length, their bytes. -/
import Derived.Test.YthpekiohalejmaaGreatDoorTreeM
import Derived.Laws.Concat
set_option linter.unusedVariables false
set_option linter.unusedSimpArgs false
namespace Go.Vc
open Go
theorem toList_inj {a b : ByteArray} : (a.toList == b.toList) = decide (a = b) := by
  rw [Bool.eq_iff_iff, decide_eq_true_iff, beq_iff_eq, ByteArray.toList_eq, ByteArray.toList_eq]
  constructor
  · intro h
    obtain ⟨x⟩ := a; obtain ⟨y⟩ := b
    obtain ⟨x⟩ := x; obtain ⟨y⟩ := y
    simpa using h
  · intro h; rw [h]
theorem Do_str_eq {P : Program} {t : TypeId} {xo yo : Operand} {a b : ByteArray} {w : World} {K : Value → World → Prop} (hk : K (.bool (decide (a = b))) w) :
    Do P (do eqGuard .eql t xo yo (.string a) (.string b); binOp .eql t (.string a) (.string b)) w K := by
  refine ⟨_, w, ?_, hk⟩
  rw [← toList_inj]
  simp [eqGuard, binOp, Op.stringOp]
theorem Do_str_ne {P : Program} {t : TypeId} {xo yo : Operand} {a b : ByteArray} {w : World} {K : Value → World → Prop} (hk : K (.bool (!decide (a = b))) w) :
    Do P (do eqGuard .neq t xo yo (.string a) (.string b); binOp .neq t (.string a) (.string b)) w K := by
  refine ⟨_, w, ?_, hk⟩
  rw [← toList_inj]
  simp [eqGuard, binOp, Op.stringOp]
theorem Do_str_add {P : Program} {t : TypeId} {a b : ByteArray} {w : World} {K : Value → World → Prop} (h : a.size + b.size ≤ 9223372036854775807) (hk : K (.string (a ++ b)) w) :
    Do P (binOp .add t (.string a) (.string b)) w K := by
  refine ⟨_, w, ?_, hk⟩
  exact run_string_add_sum w a b h
theorem Do_sadd {P : Program} {a b : ByteArray} {w : World} {K : Value → World → Prop} (hk : K (.string (a ++ b)) w) (h : a.size + b.size ≤ 9223372036854775807) : Do P (Op.stringOp .add a b) w K :=
  ⟨_, w, run_string_add_sum w a b h, hk⟩
theorem run_sadd {P : Program} {t : TypeId} {xo yo : Operand} {a b : ByteArray} (h : a.size + b.size ≤ 9223372036854775807) (w : World) : (do eqGuard .add t xo yo (.string a) (.string b); binOp .add t (.string a) (.string b)).run P w = .ok (.string (a ++ b)) w := by
  have := run_string_add_sum (P := P) w a b h
  simp only [eqGuard, binOp, Sem.run_bind, Sem.run_pure, Result.andThen_ok]
  exact this
theorem DoS_sadd {P : Program} {t : TypeId} {xo yo : Operand} {a b : ByteArray} {w : World} {K : Value → Option (World → Prop) → Prop} (hk : ∀ J : World → Prop, (∀ w, J w) → K (.string (a ++ b)) (some J)) (h : a.size + b.size ≤ 9223372036854775807) :
    DoS P (do eqGuard .add t xo yo (.string a) (.string b); binOp .add t (.string a) (.string b)) w K :=
  ⟨_, run_sadd h w, hk _ fun w => run_sadd h w⟩
theorem run_seq {P : Program} {t : TypeId} {xo yo : Operand} {a b : ByteArray} (w : World) : (do eqGuard .eql t xo yo (.string a) (.string b); binOp .eql t (.string a) (.string b)).run P w = .ok (.bool (decide (a = b))) w := by
  rw [← toList_inj]
  simp [eqGuard, binOp, Op.stringOp]
theorem DoS_seq {P : Program} {t : TypeId} {xo yo : Operand} {a b : ByteArray} {w : World} {K : Value → Option (World → Prop) → Prop} (hk : ∀ J : World → Prop, (∀ w, J w) → K (.bool (decide (a = b))) (some J)) :
    DoS P (do eqGuard .eql t xo yo (.string a) (.string b); binOp .eql t (.string a) (.string b)) w K :=
  ⟨_, run_seq w, hk _ fun w => run_seq w⟩
theorem run_sne {P : Program} {t : TypeId} {xo yo : Operand} {a b : ByteArray} (w : World) : (do eqGuard .neq t xo yo (.string a) (.string b); binOp .neq t (.string a) (.string b)).run P w = .ok (.bool (!decide (a = b))) w := by
  rw [← toList_inj]
  simp [eqGuard, binOp, Op.stringOp]
theorem DoS_sne {P : Program} {t : TypeId} {xo yo : Operand} {a b : ByteArray} {w : World} {K : Value → Option (World → Prop) → Prop} (hk : ∀ J : World → Prop, (∀ w, J w) → K (.bool (!decide (a = b))) (some J)) :
    DoS P (do eqGuard .neq t xo yo (.string a) (.string b); binOp .neq t (.string a) (.string b)) w K :=
  ⟨_, run_sne w, hk _ fun w => run_sne w⟩
theorem DoN_len {P : Program} {T : Tab} (hT : TabOk P T) {t ty : TypeId} {cb : Array Bool} {s : ByteArray} {w : World} {K : Value → World → Prop} (hd : T.d t = some .string) (hk : K (.int .i64 (s.size : Int)) w) :
    DoN P (builtin .len #[t] ty cb #[.string s]) w K := by
  refine ⟨.inl ⟨_, w, ?_, hk⟩⟩
  have ht := hT.d _ (find_mem hd)
  simp only at ht
  simp only [builtin, Sem.run_bind, run_len_string w t ty s ht, Result.andThen_ok, Sem.run_pure]
  rfl
theorem Do_idx {P : Program} {T : Tab} (hT : TabOk P T) {t : TypeId} {k : IntKind} {s : ByteArray} {w : World} {K : Value → World → Prop} {i : Nat} {b : UInt8} (hd : T.d t = some .string) (hi : s.data.toList[i]? = some b) (hk : K (.int .u8 (b.toNat : Int)) w) :
    Do P (Instr.index t (.string s) (.int k (i : Int))) w K := by
  refine ⟨_, w, ?_, hk⟩
  have ht := hT.d _ (find_mem hd)
  simp only at ht
  have hlt := (List.getElem?_eq_some_iff.1 hi).1
  have hs : i < s.size := by rw [Array.length_toList] at hlt; exact hlt
  rw [run_index_string w t s k i ht, dif_pos ⟨Int.natCast_nonneg i, by omega⟩]
  have h2 := (List.getElem?_eq_some_iff.1 hi).2
  rw [Array.getElem_toList] at h2
  rw [← h2]
  rfl
end Go.Vc
