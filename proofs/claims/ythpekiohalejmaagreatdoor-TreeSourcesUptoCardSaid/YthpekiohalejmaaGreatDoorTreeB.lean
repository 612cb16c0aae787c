/- strings.Join and strings.Builder, on parts of memory. -/
import Derived.Test.YthpekiohalejmaaGreatDoorTreeZ
import Derived.Test.YthpekiohalejmaaGreatDoorBld
set_option linter.unusedVariables false
set_option linter.unusedSimpArgs false
set_option maxRecDepth 100000
namespace Go.Tree
def joinS (l : List ByteArray) : ByteArray := ⟨(Lib.join (l.map (·.data.toList)) [44, 32]).toArray⟩
end Go.Tree
namespace Go.Proofs.YthpekiohalejmaaGreatDoor
open Go Go.Vc Go.Tree Go.RowKit
theorem bldX (w : World) : Builder.Extra Tryz.prog Tryz.jnL_ren where
  sizeBuilder := by kernel_rfl
  liesBuilder := by kernel_rfl
  t5 := Tryz.underlying5
  a5 := Tryz.isAgg5
  z5 := Tryz.sizeOf5
  v5 := Tryz.zeroValue5
  infoByte := by kernel_rfl
  cellsByte := by kernel_rfl
  sizeByte := by kernel_rfl
  neB5 := by decide
theorem Fr.of_below {w w' : World} (h : Below w.heap.size w w') : Fr (fun _ => False) w w' := by
  refine ⟨h.os, h.output, h.size, fun b h1 _ => h.block b h1, fun x hx => ?_⟩
  unfold World.frozen?
  rw [h.block _ hx]

section
variable {w0 w : World} {l : List Res}
theorem sJoin {xs : List ByteArray} {a : Option Addr} {c : Nat} (H : Sep w0 w l) (hs : Src w a xs.length 1 (xs.map Value.string)) (hc : xs.length ≤ c) (hn : xs.length ≤ 100000000) (hl : (joinS xs).size ≤ 100000000000) :
    Does Tryz.prog 15 #[.slice a xs.length c, .string ⟨#[44, 32]⟩] w fun v w' => v = .string (joinS xs) ∧ Sep w0 w' l := by
  refine ⟨Tryz.call15 _ _, ?_⟩
  by_cases h0 : xs = []
  · subst h0
    refine (Any.strings_Join_none (P := Tryz.prog) (ρ := Tryz.jnL_ren) Tryz.jnL (bldX w) a c ⟨#[44, 32]⟩ w).mono ?_
    rintro e w' ⟨rfl, rfl⟩
    exact ⟨_, rfl, rfl, H⟩
  · obtain ⟨b, o, rfl⟩ := hs.addr (by rw [List.length_map]; exact List.length_pos_iff.2 h0)
    refine (Any.strings_Join (P := Tryz.prog) (ρ := Tryz.jnL_ren) Tryz.jnL (bldX w) b o c xs ⟨#[44, 32]⟩ w (fun j x hx => ?_) ?_ (by omega) hc ?_).mono ?_
    · have := hs.cell (j := j) (u := .string x) (by rw [List.getElem?_map, hx]; rfl)
      rw [add_mk] at this
      exact this
    · obtain ⟨x, r, rfl⟩ := List.exists_cons_of_ne_nil h0
      have := hs.cell (j := 0) (u := .string x) rfl
      unfold World.cell? at this
      rcases Nat.lt_or_ge b w.heap.size with h | h
      · exact h
      · rw [show (Addr.add ⟨b, o, none⟩ 0).block = b from rfl, Array.getElem?_eq_none h] at this
        simp at this
    · have : (Lib.join (xs.map (·.data.toList)) [44, 32]).length = (joinS xs).size := by simp [joinS, ByteArray.size]
      show (Lib.join (xs.map (·.data.toList)) [44, 32]).length ≤ _
      omega
    · rintro e w' ⟨rfl, hb⟩
      exact ⟨_, rfl, rfl, H.fr (Fr.of_below hb)⟩
/-- A builder of the call's own: its block and its buffer's. -/
def bldI (B b : Nat) (bs : List UInt8) (w : World) (S : Nat → Prop) : Prop :=
  S b ∧ B ≤ b ∧ ∃ p v, (p = .pointer none ∨ p = .pointer (some ⟨b, 0, none⟩)) ∧ w.heap[b]? = some (.cells #[p, v] 45 (0, 0)) ∧
    ((v = .slice none 0 0 ∧ bs = []) ∨ ∃ g cap cur fz, v = .slice (some ⟨g, 0, none⟩) bs.length cap ∧ S g ∧ g ≠ b ∧ B ≤ g ∧ w.heap[g]? = some (.cells cur 5 fz) ∧ fz.2 ≤ bs.length * 1 ∧ bs.length ≤ cap ∧ cap ≤ maxLen ∧ cur.size = cap * 1 ∧ cur.toList.take (bs.length * 1) = Lib.byteCells bs)
theorem heap_lt {w : World} {b : Nat} {o : Obj} (h : w.heap[b]? = some o) : b < w.heap.size := (Array.getElem?_eq_some_iff.1 h).1
def bldR (B b : Nat) (bs : List UInt8) : Res where
  is := bldI B b bs
  lt := by
    rintro w S ⟨h1, h2, p, v, h3, h4, h5⟩
    refine ⟨⟨h1, heap_lt h4⟩, h2, p, v, h3, h4, h5.imp id ?_⟩
    rintro ⟨g, cap, cur, fz, e, hg, hgb, hB, hh, r⟩
    exact ⟨g, cap, cur, fz, e, ⟨hg, heap_lt hh⟩, hgb, hB, hh, r⟩
  fr := by
    rintro w w' S S' ⟨h1, h2, p, v, h3, h4, h5⟩ hf hd
    refine ⟨h1, h2, p, v, h3, (hf.old b (heap_lt h4) (hd b h1)).trans h4, h5.imp id ?_⟩
    rintro ⟨g, cap, cur, fz, e, hg, hgb, hB, hh, r⟩
    exact ⟨g, cap, cur, fz, e, hg, hgb, hB, (hf.old g (heap_lt hh) (hd g hg)).trans hh, r⟩
  mono := by
    rintro w S S' ⟨h1, h2, p, v, h3, h4, h5⟩ hm
    refine ⟨hm b h1, h2, p, v, h3, h4, h5.imp id ?_⟩
    rintro ⟨g, cap, cur, fz, e, hg, r⟩
    exact ⟨g, cap, cur, fz, e, hm g hg, r⟩
theorem byteLen (bs : List UInt8) : (Lib.byteCells bs).length = bs.length := by simp [Lib.byteCells]
theorem bldI.to {B b : Nat} {bs : List UInt8} {w : World} {S : Nat → Prop} (h : bldI B b bs w S) : Lib.IsBuilderF 45 5 B b (Lib.byteCells bs) w := by
  obtain ⟨h1, h2, p, v, h3, h4, h5⟩ := h
  have key : Lib.BuilderAtF 45 5 B b p (Lib.byteCells bs) w := by
    refine ⟨h2, v, h4, ⟨by rw [byteLen]; omega, ?_⟩, ?_⟩
    · rcases h5 with ⟨rfl, rfl⟩ | ⟨g, cap, cur, fz, rfl, hg, hgb, hB, hh, k1, k2, k3, k4, k5⟩
      · exact .inl ⟨rfl, rfl⟩
      · exact .inr ⟨g, cap, cur, fz, by rw [byteLen], hB, hh, by rw [byteLen]; exact k1, by rw [byteLen]; exact k2, k3, k4, by rw [byteLen]; exact k5⟩
    · rcases h5 with ⟨rfl, rfl⟩ | ⟨g, cap, cur, fz, rfl, hg, hgb, hB, hh, k1, k2, k3, k4, k5⟩
      · simp [Value.ownBlock]
      · simp [Value.ownBlock]; omega
  rcases h3 with rfl | rfl
  · exact .inl key
  · exact .inr key
theorem bldI.of {B b : Nat} {bs : List UInt8} {w : World} (h : Lib.BuilderAtF 45 5 B b (.pointer (some ⟨b, 0, none⟩)) (Lib.byteCells bs) w) :
    bldI B b bs w fun x => x = b ∨ ∃ cur fz, B ≤ x ∧ w.heap[x]? = some (.cells cur 5 fz) := by
  obtain ⟨h2, v, h4, ⟨k0, h5⟩, hne⟩ := h
  refine ⟨.inl rfl, h2, _, v, .inr rfl, h4, ?_⟩
  rw [byteLen] at h5
  rcases h5 with ⟨rfl, h0⟩ | ⟨g, cap, cur, fz, rfl, hB, hh, k1, k2, k3, k4, k5⟩
  · exact .inl ⟨rfl, List.length_eq_zero_iff.1 h0⟩
  · exact .inr ⟨g, cap, cur, fz, rfl, .inr ⟨cur, fz, hB, hh⟩, by simpa [Value.ownBlock] using hne, hB, hh, k1, k2, k3, k4, k5⟩
theorem cells_keep : ∀ {ps : List (Nat × Nat × List Value)} {w w' : World} {Q Q' : Nat → Prop}, SepL (ps.map fun p => cellsR p.1 p.2.1 p.2.2) w Q → (∀ p ∈ ps, ∀ cs, w.heap[p.1]? = some (.cells cs p.2.1 (0, 0)) → Q p.1 → w'.heap[p.1]? = some (.cells cs p.2.1 (0, 0)) ∧ Q' p.1) →
    SepL (ps.map fun p => cellsR p.1 p.2.1 p.2.2) w' Q'
  | [], _, _, _, _, _, _ => trivial
  | p :: ps, w, w', Q, Q', ⟨S1, h1, h2, h3⟩, hk => by
    have hp := hk p (.head _) _ h2.cell.out (h1 _ h2.b_in)
    refine ⟨fun x => x = p.1, fun x hx => by subst hx; exact hp.2, ⟨rfl, ⟨hp.1⟩⟩, cells_keep h3 fun q hq cs hc hQ => ?_⟩
    have := hk q (.tail _ hq) cs hc hQ.1
    exact ⟨this.1, this.2, fun e => hQ.2 (by rw [e]; exact h2.b_in)⟩
theorem bWrite {b : Nat} {bs : List UInt8} {ps : List (Nat × Nat × List Value)} {s : ByteArray} (H : Sep w0 w (bldR w0.heap.size b bs :: ps.map fun p => cellsR p.1 p.2.1 p.2.2)) (ht : ∀ p ∈ ps, p.2.1 ≠ 5) (hlen : bs.length + s.size ≤ 140737488355328) :
    Does Tryz.prog 14 #[.pointer (some ⟨b, 0, none⟩), .string s] w fun v w' => v = .tuple #[.int .i64 (s.size : Int), .nilIface] ∧ Sep w0 w' (bldR w0.heap.size b (bs ++ s.data.toList) :: ps.map fun p => cellsR p.1 p.2.1 p.2.2) := by
  refine ⟨Tryz.call14 _ _, ?_⟩
  obtain ⟨base, S1, k1, k2, k3⟩ := H
  refine (Any.Builder_WriteString_k (P := Tryz.prog) (ρ := Tryz.jnL_ren) { Tryz.jnL with } (bldX w) w0.heap.size b (Lib.byteCells bs) s w (bldI.to k2) (by rw [byteLen]; exact hlen) base.size).mono ?_
  rintro e w' ⟨rfl, hb, hbelow, hkept⟩
  have hcells : Lib.byteCells bs ++ Lib.strCells s = Lib.byteCells (bs ++ s.data.toList) := by simp [Lib.byteCells, Lib.strCells]
  rw [hcells] at hb
  have hI := bldI.of hb
  refine ⟨_, rfl, rfl, ⟨⟨hbelow.os.trans base.os, hbelow.output.trans base.out, Nat.le_trans base.size hbelow.size, fun x h1 h2 => (hbelow.block x h1).trans (base.old x h1 h2), fun x hx => ?_⟩, (fun x => x = b ∨ ∃ cur fz, w0.heap.size ≤ x ∧ w'.heap[x]? = some (.cells cur 5 fz)), fun x hx => ?_, hI, ?_⟩⟩
  · unfold World.frozen?
    rw [hbelow.block _ hx, base.old _ hx (fun h => h)]
  · rcases hx with rfl | ⟨cur, fz, h1, h2⟩
    · obtain ⟨_, hB, p, v, _, h4, _⟩ := hI
      exact ⟨hB, heap_lt h4⟩
    · exact ⟨h1, heap_lt h2⟩
  · refine cells_keep k3 fun p hp cs hc hQ => ?_
    have hpb : p.1 ≠ b := fun e => hQ.2 (by rw [e]; exact k2.1)
    have hk' := hkept p.1 _ hc (fun e => hpb (Option.some.inj e)) fun c fz e => by
      simp only [Obj.cells.injEq] at e
      exact ht p hp e.2.1
    refine ⟨hk', ⟨⟨hQ.1.1, heap_lt hk'⟩, ?_⟩⟩
    rintro (e | ⟨cur, fz, _, h2⟩)
    · exact hpb e
    · rw [hk'] at h2
      simp only [Option.some.injEq, Obj.cells.injEq] at h2
      exact ht p hp h2.2.1
theorem bString {b : Nat} {bs : List UInt8} (H : Sep w0 w (bldR w0.heap.size b bs :: l)) :
    Does Tryz.prog 18 #[.pointer (some ⟨b, 0, none⟩)] w fun v w' => v = .string ⟨bs.toArray⟩ ∧ Sep w0 w' [] := by
  refine ⟨Tryz.call18 _ _, ?_⟩
  obtain ⟨base, S1, k1, k2, k3⟩ := H
  refine (Any.Builder_String_any_k (P := Tryz.prog) (ρ := Tryz.jnL_ren) { Tryz.jnL with } (bldX w) w0.heap.size b bs w (bldI.to k2) base.size).mono ?_
  rintro e w' ⟨rfl, hb, hbelow, hkept⟩
  refine ⟨_, rfl, rfl, ⟨⟨hbelow.os.trans base.os, hbelow.output.trans base.out, Nat.le_trans base.size hbelow.size, fun x h1 h2 => (hbelow.block x h1).trans (base.old x h1 h2), fun x hx => ?_⟩, trivial⟩⟩
  unfold World.frozen?
  rw [hbelow.block _ hx, base.old _ hx (fun h => h)]
theorem bNew {b : Nat} (H : Sep w0 w (cellsR b 45 [.pointer none, .slice none 0 0] :: l)) : Sep w0 w (bldR w0.heap.size b [] :: l) := by
  obtain ⟨base, S1, k1, k2, k3⟩ := H
  exact ⟨base, S1, k1, ⟨k2.b_in, (k1 _ k2.b_in).1, _, _, .inl rfl, k2.cell.out, .inl ⟨rfl, rfl⟩⟩, k3⟩
end
end Go.Proofs.YthpekiohalejmaaGreatDoor
