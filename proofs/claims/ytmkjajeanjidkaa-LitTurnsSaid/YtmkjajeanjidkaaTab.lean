/- What is known of the types of this seat: written by a program, off the seat's own facts. -/
import Derived.Test.YtmkjajeanjidkaaProg
import Derived.Test.YtmkjajeanjidkaaVc
namespace Go.Proofs.Ytmkjajeanjidkaa
open Go Go.Vc

theorem all_cons {α : Type} {p : α → Prop} {x : α} {l : List α} (h : p x) (r : ∀ y ∈ l, p y) : ∀ y ∈ x :: l, p y := fun y hy => by
  cases hy with
  | head => exact h
  | tail _ hy => exact r y hy

def tabD : List (Nat × TypeDesc) := [(0, Go.TypeDesc.tuple #[]), (1, Go.TypeDesc.func #[] #[] false), (2, Go.TypeDesc.int Go.IntKind.i64), (3, Go.TypeDesc.int Go.IntKind.i64), (4, Go.TypeDesc.bool), (5, Go.TypeDesc.int Go.IntKind.u8), (6, Go.TypeDesc.int Go.IntKind.u8), (7, Go.TypeDesc.struct #[{ name := "x", type := 2, offset := 0, embedded := false, tag := "", pkgPath := "runtime", byteOffset := 0 }, { name := "y", type := 3, offset := 1, embedded := false, tag := "", pkgPath := "runtime", byteOffset := 8 }, { name := "signed", type := 4, offset := 2, embedded := false, tag := "", pkgPath := "runtime", byteOffset := 16 }, { name := "code", type := 6, offset := 3, embedded := false, tag := "", pkgPath := "runtime", byteOffset := 17 }]), (8, Go.TypeDesc.struct #[{ name := "x", type := 2, offset := 0, embedded := false, tag := "", pkgPath := "runtime", byteOffset := 0 }, { name := "y", type := 3, offset := 1, embedded := false, tag := "", pkgPath := "runtime", byteOffset := 8 }, { name := "signed", type := 4, offset := 2, embedded := false, tag := "", pkgPath := "runtime", byteOffset := 16 }, { name := "code", type := 6, offset := 3, embedded := false, tag := "", pkgPath := "runtime", byteOffset := 17 }]), (9, Go.TypeDesc.string), (10, Go.TypeDesc.string), (11, Go.TypeDesc.string), (12, Go.TypeDesc.int Go.IntKind.u64), (13, Go.TypeDesc.struct #[{ name := "msg", type := 9, offset := 0, embedded := false, tag := "", pkgPath := "runtime", byteOffset := 0 }, { name := "addr", type := 12, offset := 1, embedded := false, tag := "", pkgPath := "runtime", byteOffset := 16 }]), (14, Go.TypeDesc.struct #[{ name := "msg", type := 9, offset := 0, embedded := false, tag := "", pkgPath := "runtime", byteOffset := 0 }, { name := "addr", type := 12, offset := 1, embedded := false, tag := "", pkgPath := "runtime", byteOffset := 16 }]), (15, Go.TypeDesc.pointer 82), (16, Go.TypeDesc.pointer 85), (17, Go.TypeDesc.pointer 94), (18, Go.TypeDesc.struct #[{ name := "typ", type := 17, offset := 0, embedded := false, tag := "", pkgPath := "internal/runtime/maps", byteOffset := 0 }]), (19, Go.TypeDesc.struct #[{ name := "typ", type := 17, offset := 0, embedded := false, tag := "", pkgPath := "internal/runtime/maps", byteOffset := 0 }]), (20, Go.TypeDesc.interface #[]), (21, Go.TypeDesc.int Go.IntKind.i32), (22, Go.TypeDesc.slice 34), (23, Go.TypeDesc.func #[] #[4] false), (24, Go.TypeDesc.int Go.IntKind.i64), (25, Go.TypeDesc.tuple #[22, 4, 24]), (26, Go.TypeDesc.func #[22] #[22, 4, 24] true), (27, Go.TypeDesc.tuple #[22, 4, 3]), (28, Go.TypeDesc.func #[22] #[22, 4, 3] false), (29, Go.TypeDesc.func #[22, 22] #[4] false), (30, Go.TypeDesc.func #[22] #[4] true), (31, Go.TypeDesc.func #[22] #[4] false), (32, Go.TypeDesc.int Go.IntKind.u64), (33, Go.TypeDesc.array 2 32), (34, Go.TypeDesc.int Go.IntKind.i32), (35, Go.TypeDesc.tuple #[22, 24]), (36, Go.TypeDesc.func #[22, 22, 3] #[22, 24] false), (37, Go.TypeDesc.func #[22, 22, 33] #[4] false), (38, Go.TypeDesc.tuple #[22, 3]), (39, Go.TypeDesc.func #[22, 22, 3] #[22, 3] false), (40, Go.TypeDesc.func #[22, 34] #[4] false), (41, Go.TypeDesc.func #[22, 22, 3] #[4] false), (42, Go.TypeDesc.func #[34] #[34] false), (43, Go.TypeDesc.func #[3] #[34] false), (44, Go.TypeDesc.func #[34] #[4] false), (45, Go.TypeDesc.func #[34] #[3] false), (46, Go.TypeDesc.func #[34, 3] #[4] false), (47, Go.TypeDesc.func #[34, 34] #[4] false), (48, Go.TypeDesc.func #[22] #[22] false), (49, Go.TypeDesc.func #[22, 50] #[] false), (50, Go.TypeDesc.func #[34, 34] #[3] false), (51, Go.TypeDesc.func #[22, 44] #[4] false), (52, Go.TypeDesc.func #[22, 44] #[22] false), (53, Go.TypeDesc.func #[22, 3, 3, 3, 50] #[] false), (54, Go.TypeDesc.func #[55] #[3] false), (55, Go.TypeDesc.int Go.IntKind.u64), (56, Go.TypeDesc.func #[3, 3] #[3] false), (57, Go.TypeDesc.func #[22, 44] #[3] false), (58, Go.TypeDesc.func #[22, 34] #[3] false), (59, Go.TypeDesc.func #[22, 3, 3, 50] #[] false), (60, Go.TypeDesc.int Go.IntKind.i64), (61, Go.TypeDesc.tuple #[3, 60]), (62, Go.TypeDesc.func #[22, 3, 3, 50] #[3, 60] false), (63, Go.TypeDesc.func #[22, 3, 3, 50] #[4] false), (64, Go.TypeDesc.func #[22, 3, 3, 3, 50] #[3] false), (65, Go.TypeDesc.tuple #[3, 4]), (66, Go.TypeDesc.func #[22, 3, 3, 3, 50] #[3, 4] false), (67, Go.TypeDesc.func #[68] #[3] false), (68, Go.TypeDesc.int Go.IntKind.u32), (69, Go.TypeDesc.func #[32] #[3] false), (70, Go.TypeDesc.func #[3] #[4] false), (71, Go.TypeDesc.int Go.IntKind.u64), (72, Go.TypeDesc.func #[3] #[55] false), (73, Go.TypeDesc.func #[] #[32] false), (74, Go.TypeDesc.func #[22, 3, 75, 50] #[3] false), (75, Go.TypeDesc.pointer 3), (76, Go.TypeDesc.func #[22, 3, 3, 3, 75, 50] #[3] false), (77, Go.TypeDesc.pointer 71), (78, Go.TypeDesc.tuple #[3, 3]), (79, Go.TypeDesc.func #[22, 3, 3, 75, 50] #[3, 3] false), (80, Go.TypeDesc.func #[] #[9] false), (81, Go.TypeDesc.struct #[{ name := "_interface", type := 17, offset := 0, embedded := false, tag := "", pkgPath := "runtime", byteOffset := 0 }, { name := "concrete", type := 17, offset := 1, embedded := false, tag := "", pkgPath := "runtime", byteOffset := 8 }, { name := "asserted", type := 17, offset := 2, embedded := false, tag := "", pkgPath := "runtime", byteOffset := 16 }, { name := "missingMethod", type := 9, offset := 3, embedded := false, tag := "", pkgPath := "runtime", byteOffset := 24 }]), (82, Go.TypeDesc.struct #[{ name := "_interface", type := 17, offset := 0, embedded := false, tag := "", pkgPath := "runtime", byteOffset := 0 }, { name := "concrete", type := 17, offset := 1, embedded := false, tag := "", pkgPath := "runtime", byteOffset := 8 }, { name := "asserted", type := 17, offset := 2, embedded := false, tag := "", pkgPath := "runtime", byteOffset := 16 }, { name := "missingMethod", type := 9, offset := 3, embedded := false, tag := "", pkgPath := "runtime", byteOffset := 24 }]), (83, Go.TypeDesc.array 0 16), (84, Go.TypeDesc.struct #[{ name := "_", type := 83, offset := 0, embedded := false, tag := "", pkgPath := "runtime", byteOffset := 0 }]), (85, Go.TypeDesc.struct #[{ name := "_", type := 83, offset := 0, embedded := false, tag := "", pkgPath := "runtime", byteOffset := 0 }]), (86, Go.TypeDesc.func #[] #[3] false), (87, Go.TypeDesc.int Go.IntKind.u8), (88, Go.TypeDesc.int Go.IntKind.u8), (89, Go.TypeDesc.func #[95, 95] #[4] false), (90, Go.TypeDesc.pointer 5), (91, Go.TypeDesc.int Go.IntKind.i32), (92, Go.TypeDesc.int Go.IntKind.i32), (93, Go.TypeDesc.struct #[{ name := "Size_", type := 12, offset := 0, embedded := false, tag := "", pkgPath := "", byteOffset := 0 }, { name := "PtrBytes", type := 12, offset := 1, embedded := false, tag := "", pkgPath := "", byteOffset := 8 }, { name := "Hash", type := 68, offset := 2, embedded := false, tag := "", pkgPath := "", byteOffset := 16 }, { name := "TFlag", type := 87, offset := 3, embedded := false, tag := "", pkgPath := "", byteOffset := 20 }, { name := "Align_", type := 5, offset := 4, embedded := false, tag := "", pkgPath := "", byteOffset := 21 }, { name := "FieldAlign_", type := 5, offset := 5, embedded := false, tag := "", pkgPath := "", byteOffset := 22 }, { name := "Kind_", type := 88, offset := 6, embedded := false, tag := "", pkgPath := "", byteOffset := 23 }, { name := "Equal", type := 89, offset := 7, embedded := false, tag := "", pkgPath := "", byteOffset := 24 }, { name := "GCData", type := 90, offset := 8, embedded := false, tag := "", pkgPath := "", byteOffset := 32 }, { name := "Str", type := 91, offset := 9, embedded := false, tag := "", pkgPath := "", byteOffset := 40 }, { name := "PtrToThis", type := 92, offset := 10, embedded := false, tag := "", pkgPath := "", byteOffset := 44 }]), (94, Go.TypeDesc.struct #[{ name := "Size_", type := 12, offset := 0, embedded := false, tag := "", pkgPath := "", byteOffset := 0 }, { name := "PtrBytes", type := 12, offset := 1, embedded := false, tag := "", pkgPath := "", byteOffset := 8 }, { name := "Hash", type := 68, offset := 2, embedded := false, tag := "", pkgPath := "", byteOffset := 16 }, { name := "TFlag", type := 87, offset := 3, embedded := false, tag := "", pkgPath := "", byteOffset := 20 }, { name := "Align_", type := 5, offset := 4, embedded := false, tag := "", pkgPath := "", byteOffset := 21 }, { name := "FieldAlign_", type := 5, offset := 5, embedded := false, tag := "", pkgPath := "", byteOffset := 22 }, { name := "Kind_", type := 88, offset := 6, embedded := false, tag := "", pkgPath := "", byteOffset := 23 }, { name := "Equal", type := 89, offset := 7, embedded := false, tag := "", pkgPath := "", byteOffset := 24 }, { name := "GCData", type := 90, offset := 8, embedded := false, tag := "", pkgPath := "", byteOffset := 32 }, { name := "Str", type := 91, offset := 9, embedded := false, tag := "", pkgPath := "", byteOffset := 40 }, { name := "PtrToThis", type := 92, offset := 10, embedded := false, tag := "", pkgPath := "", byteOffset := 44 }]), (95, Go.TypeDesc.unsafePointer)]
def tabS : List (Nat × Nat) := [(0, 1), (1, 1), (2, 1), (3, 1), (4, 1), (5, 1), (6, 1), (7, 4), (8, 4), (9, 1), (10, 1), (11, 1), (12, 1), (13, 2), (14, 2), (15, 1), (16, 1), (17, 1), (18, 1), (19, 1), (20, 1), (21, 1), (22, 1), (23, 1), (24, 1), (25, 1), (26, 1), (27, 1), (28, 1), (29, 1), (30, 1), (31, 1), (32, 1), (33, 2), (34, 1), (35, 1), (36, 1), (37, 1), (38, 1), (39, 1), (40, 1), (41, 1), (42, 1), (43, 1), (44, 1), (45, 1), (46, 1), (47, 1), (48, 1), (49, 1), (50, 1), (51, 1), (52, 1), (53, 1), (54, 1), (55, 1), (56, 1), (57, 1), (58, 1), (59, 1), (60, 1), (61, 1), (62, 1), (63, 1), (64, 1), (65, 1), (66, 1), (67, 1), (68, 1), (69, 1), (70, 1), (71, 1), (72, 1), (73, 1), (74, 1), (75, 1), (76, 1), (77, 1), (78, 1), (79, 1), (80, 1), (81, 4), (82, 4), (83, 0), (84, 0), (85, 0), (86, 1), (87, 1), (88, 1), (89, 1), (90, 1), (91, 1), (92, 1), (93, 11), (94, 11), (95, 1)]
def tabB : List (Nat × Nat) := [(0, 0), (1, 8), (2, 8), (3, 8), (4, 1), (5, 1), (6, 1), (7, 24), (8, 24), (9, 16), (10, 16), (11, 16), (12, 8), (13, 24), (14, 24), (15, 8), (16, 8), (17, 8), (18, 8), (19, 8), (20, 16), (21, 4), (22, 24), (23, 8), (24, 8), (25, 0), (26, 8), (27, 0), (28, 8), (29, 8), (30, 8), (31, 8), (32, 8), (33, 16), (34, 4), (35, 0), (36, 8), (37, 8), (38, 0), (39, 8), (40, 8), (41, 8), (42, 8), (43, 8), (44, 8), (45, 8), (46, 8), (47, 8), (48, 8), (49, 8), (50, 8), (51, 8), (52, 8), (53, 8), (54, 8), (55, 8), (56, 8), (57, 8), (58, 8), (59, 8), (60, 8), (61, 0), (62, 8), (63, 8), (64, 8), (65, 0), (66, 8), (67, 8), (68, 4), (69, 8), (70, 8), (71, 8), (72, 8), (73, 8), (74, 8), (75, 8), (76, 8), (77, 8), (78, 0), (79, 8), (80, 8), (81, 40), (82, 40), (83, 0), (84, 0), (85, 0), (86, 8), (87, 1), (88, 1), (89, 8), (90, 8), (91, 4), (92, 4), (93, 48), (94, 48), (95, 8)]
def tabZ : List (Nat × Value) := [(0, (Go.Value.tuple #[])), (1, Go.Value.nilFunc), (2, (Go.Value.int Go.IntKind.i64 0)), (3, (Go.Value.int Go.IntKind.i64 0)), (4, (Go.Value.bool false)), (5, (Go.Value.int Go.IntKind.u8 0)), (6, (Go.Value.int Go.IntKind.u8 0)), (7, (Go.Value.agg #[Go.Value.int Go.IntKind.i64 0, Go.Value.int Go.IntKind.i64 0, Go.Value.bool false, Go.Value.int Go.IntKind.u8 0])), (8, (Go.Value.agg #[Go.Value.int Go.IntKind.i64 0, Go.Value.int Go.IntKind.i64 0, Go.Value.bool false, Go.Value.int Go.IntKind.u8 0])), (9, (Go.Value.string { data := #[] })), (10, (Go.Value.string { data := #[] })), (11, (Go.Value.string { data := #[] })), (12, (Go.Value.int Go.IntKind.u64 0)), (13, (Go.Value.agg #[Go.Value.string { data := #[] }, Go.Value.int Go.IntKind.u64 0])), (14, (Go.Value.agg #[Go.Value.string { data := #[] }, Go.Value.int Go.IntKind.u64 0])), (15, (Go.Value.pointer none)), (16, (Go.Value.pointer none)), (17, (Go.Value.pointer none)), (18, (Go.Value.agg #[Go.Value.pointer none])), (19, (Go.Value.agg #[Go.Value.pointer none])), (20, Go.Value.nilIface), (21, (Go.Value.int Go.IntKind.i32 0)), (22, (Go.Value.slice none 0 0)), (23, Go.Value.nilFunc), (24, (Go.Value.int Go.IntKind.i64 0)), (25, (Go.Value.tuple #[Go.Value.slice none 0 0, Go.Value.bool false, Go.Value.int Go.IntKind.i64 0])), (26, Go.Value.nilFunc), (27, (Go.Value.tuple #[Go.Value.slice none 0 0, Go.Value.bool false, Go.Value.int Go.IntKind.i64 0])), (28, Go.Value.nilFunc), (29, Go.Value.nilFunc), (30, Go.Value.nilFunc), (31, Go.Value.nilFunc), (32, (Go.Value.int Go.IntKind.u64 0)), (33, (Go.Value.agg #[Go.Value.int Go.IntKind.u64 0, Go.Value.int Go.IntKind.u64 0])), (34, (Go.Value.int Go.IntKind.i32 0)), (35, (Go.Value.tuple #[Go.Value.slice none 0 0, Go.Value.int Go.IntKind.i64 0])), (36, Go.Value.nilFunc), (37, Go.Value.nilFunc), (38, (Go.Value.tuple #[Go.Value.slice none 0 0, Go.Value.int Go.IntKind.i64 0])), (39, Go.Value.nilFunc), (40, Go.Value.nilFunc), (41, Go.Value.nilFunc), (42, Go.Value.nilFunc), (43, Go.Value.nilFunc), (44, Go.Value.nilFunc), (45, Go.Value.nilFunc), (46, Go.Value.nilFunc), (47, Go.Value.nilFunc), (48, Go.Value.nilFunc), (49, Go.Value.nilFunc), (50, Go.Value.nilFunc), (51, Go.Value.nilFunc), (52, Go.Value.nilFunc), (53, Go.Value.nilFunc), (54, Go.Value.nilFunc), (55, (Go.Value.int Go.IntKind.u64 0)), (56, Go.Value.nilFunc), (57, Go.Value.nilFunc), (58, Go.Value.nilFunc), (59, Go.Value.nilFunc), (60, (Go.Value.int Go.IntKind.i64 0)), (61, (Go.Value.tuple #[Go.Value.int Go.IntKind.i64 0, Go.Value.int Go.IntKind.i64 0])), (62, Go.Value.nilFunc), (63, Go.Value.nilFunc), (64, Go.Value.nilFunc), (65, (Go.Value.tuple #[Go.Value.int Go.IntKind.i64 0, Go.Value.bool false])), (66, Go.Value.nilFunc), (67, Go.Value.nilFunc), (68, (Go.Value.int Go.IntKind.u32 0)), (69, Go.Value.nilFunc), (70, Go.Value.nilFunc), (71, (Go.Value.int Go.IntKind.u64 0)), (72, Go.Value.nilFunc), (73, Go.Value.nilFunc), (74, Go.Value.nilFunc), (75, (Go.Value.pointer none)), (76, Go.Value.nilFunc), (77, (Go.Value.pointer none)), (78, (Go.Value.tuple #[Go.Value.int Go.IntKind.i64 0, Go.Value.int Go.IntKind.i64 0])), (79, Go.Value.nilFunc), (80, Go.Value.nilFunc), (81, (Go.Value.agg #[Go.Value.pointer none, Go.Value.pointer none, Go.Value.pointer none, Go.Value.string { data := #[] }])), (82, (Go.Value.agg #[Go.Value.pointer none, Go.Value.pointer none, Go.Value.pointer none, Go.Value.string { data := #[] }])), (83, (Go.Value.agg #[])), (84, (Go.Value.agg #[])), (85, (Go.Value.agg #[])), (86, Go.Value.nilFunc), (87, (Go.Value.int Go.IntKind.u8 0)), (88, (Go.Value.int Go.IntKind.u8 0)), (89, Go.Value.nilFunc), (90, (Go.Value.pointer none)), (91, (Go.Value.int Go.IntKind.i32 0)), (92, (Go.Value.int Go.IntKind.i32 0)), (93, (Go.Value.agg #[Go.Value.int Go.IntKind.u64 0, Go.Value.int Go.IntKind.u64 0, Go.Value.int Go.IntKind.u32 0, Go.Value.int Go.IntKind.u8 0, Go.Value.int Go.IntKind.u8 0, Go.Value.int Go.IntKind.u8 0, Go.Value.int Go.IntKind.u8 0, Go.Value.nilFunc, Go.Value.pointer none, Go.Value.int Go.IntKind.i32 0, Go.Value.int Go.IntKind.i32 0])), (94, (Go.Value.agg #[Go.Value.int Go.IntKind.u64 0, Go.Value.int Go.IntKind.u64 0, Go.Value.int Go.IntKind.u32 0, Go.Value.int Go.IntKind.u8 0, Go.Value.int Go.IntKind.u8 0, Go.Value.int Go.IntKind.u8 0, Go.Value.int Go.IntKind.u8 0, Go.Value.nilFunc, Go.Value.pointer none, Go.Value.int Go.IntKind.i32 0, Go.Value.int Go.IntKind.i32 0])), (95, (Go.Value.pointer none))]
def tab : Tab := ⟨tabD, tabS, tabB, tabZ⟩

theorem tabD_ok : ∀ x ∈ tabD, Try.prog.underlying x.1 = some x.2 := by
  refine all_cons (Try.underlying0) ?_
  refine all_cons (Try.underlying1) ?_
  refine all_cons (Try.underlying2) ?_
  refine all_cons (Try.underlying3) ?_
  refine all_cons (Try.underlying4) ?_
  refine all_cons (Try.underlying5) ?_
  refine all_cons (Try.underlying6) ?_
  refine all_cons (Try.underlying7) ?_
  refine all_cons (Try.underlying8) ?_
  refine all_cons (Try.underlying9) ?_
  refine all_cons (Try.underlying10) ?_
  refine all_cons (Try.underlying11) ?_
  refine all_cons (Try.underlying12) ?_
  refine all_cons (Try.underlying13) ?_
  refine all_cons (Try.underlying14) ?_
  refine all_cons (Try.underlying15) ?_
  refine all_cons (Try.underlying16) ?_
  refine all_cons (Try.underlying17) ?_
  refine all_cons (Try.underlying18) ?_
  refine all_cons (Try.underlying19) ?_
  refine all_cons (Try.underlying20) ?_
  refine all_cons (Try.underlying21) ?_
  refine all_cons (Try.underlying22) ?_
  refine all_cons (Try.underlying23) ?_
  refine all_cons (Try.underlying24) ?_
  refine all_cons (Try.underlying25) ?_
  refine all_cons (Try.underlying26) ?_
  refine all_cons (Try.underlying27) ?_
  refine all_cons (Try.underlying28) ?_
  refine all_cons (Try.underlying29) ?_
  refine all_cons (Try.underlying30) ?_
  refine all_cons (Try.underlying31) ?_
  refine all_cons (Try.underlying32) ?_
  refine all_cons (Try.underlying33) ?_
  refine all_cons (Try.underlying34) ?_
  refine all_cons (Try.underlying35) ?_
  refine all_cons (Try.underlying36) ?_
  refine all_cons (Try.underlying37) ?_
  refine all_cons (Try.underlying38) ?_
  refine all_cons (Try.underlying39) ?_
  refine all_cons (Try.underlying40) ?_
  refine all_cons (Try.underlying41) ?_
  refine all_cons (Try.underlying42) ?_
  refine all_cons (Try.underlying43) ?_
  refine all_cons (Try.underlying44) ?_
  refine all_cons (Try.underlying45) ?_
  refine all_cons (Try.underlying46) ?_
  refine all_cons (Try.underlying47) ?_
  refine all_cons (Try.underlying48) ?_
  refine all_cons (Try.underlying49) ?_
  refine all_cons (Try.underlying50) ?_
  refine all_cons (Try.underlying51) ?_
  refine all_cons (Try.underlying52) ?_
  refine all_cons (Try.underlying53) ?_
  refine all_cons (Try.underlying54) ?_
  refine all_cons (Try.underlying55) ?_
  refine all_cons (Try.underlying56) ?_
  refine all_cons (Try.underlying57) ?_
  refine all_cons (Try.underlying58) ?_
  refine all_cons (Try.underlying59) ?_
  refine all_cons (Try.underlying60) ?_
  refine all_cons (Try.underlying61) ?_
  refine all_cons (Try.underlying62) ?_
  refine all_cons (Try.underlying63) ?_
  refine all_cons (Try.underlying64) ?_
  refine all_cons (Try.underlying65) ?_
  refine all_cons (Try.underlying66) ?_
  refine all_cons (Try.underlying67) ?_
  refine all_cons (Try.underlying68) ?_
  refine all_cons (Try.underlying69) ?_
  refine all_cons (Try.underlying70) ?_
  refine all_cons (Try.underlying71) ?_
  refine all_cons (Try.underlying72) ?_
  refine all_cons (Try.underlying73) ?_
  refine all_cons (Try.underlying74) ?_
  refine all_cons (Try.underlying75) ?_
  refine all_cons (Try.underlying76) ?_
  refine all_cons (Try.underlying77) ?_
  refine all_cons (Try.underlying78) ?_
  refine all_cons (Try.underlying79) ?_
  refine all_cons (Try.underlying80) ?_
  refine all_cons (Try.underlying81) ?_
  refine all_cons (Try.underlying82) ?_
  refine all_cons (Try.underlying83) ?_
  refine all_cons (Try.underlying84) ?_
  refine all_cons (Try.underlying85) ?_
  refine all_cons (Try.underlying86) ?_
  refine all_cons (Try.underlying87) ?_
  refine all_cons (Try.underlying88) ?_
  refine all_cons (Try.underlying89) ?_
  refine all_cons (Try.underlying90) ?_
  refine all_cons (Try.underlying91) ?_
  refine all_cons (Try.underlying92) ?_
  refine all_cons (Try.underlying93) ?_
  refine all_cons (Try.underlying94) ?_
  refine all_cons (Try.underlying95) ?_
  exact fun _ h => nomatch h

theorem tabS_ok : ∀ x ∈ tabS, ∀ w, (sizeOf x.1).run Try.prog w = .ok x.2 w := by
  refine all_cons (Try.sizeOf0) ?_
  refine all_cons (Try.sizeOf1) ?_
  refine all_cons (Try.sizeOf2) ?_
  refine all_cons (Try.sizeOf3) ?_
  refine all_cons (Try.sizeOf4) ?_
  refine all_cons (Try.sizeOf5) ?_
  refine all_cons (Try.sizeOf6) ?_
  refine all_cons (Try.sizeOf7) ?_
  refine all_cons (Try.sizeOf8) ?_
  refine all_cons (Try.sizeOf9) ?_
  refine all_cons (Try.sizeOf10) ?_
  refine all_cons (Try.sizeOf11) ?_
  refine all_cons (Try.sizeOf12) ?_
  refine all_cons (Try.sizeOf13) ?_
  refine all_cons (Try.sizeOf14) ?_
  refine all_cons (Try.sizeOf15) ?_
  refine all_cons (Try.sizeOf16) ?_
  refine all_cons (Try.sizeOf17) ?_
  refine all_cons (Try.sizeOf18) ?_
  refine all_cons (Try.sizeOf19) ?_
  refine all_cons (Try.sizeOf20) ?_
  refine all_cons (Try.sizeOf21) ?_
  refine all_cons (Try.sizeOf22) ?_
  refine all_cons (Try.sizeOf23) ?_
  refine all_cons (Try.sizeOf24) ?_
  refine all_cons (Try.sizeOf25) ?_
  refine all_cons (Try.sizeOf26) ?_
  refine all_cons (Try.sizeOf27) ?_
  refine all_cons (Try.sizeOf28) ?_
  refine all_cons (Try.sizeOf29) ?_
  refine all_cons (Try.sizeOf30) ?_
  refine all_cons (Try.sizeOf31) ?_
  refine all_cons (Try.sizeOf32) ?_
  refine all_cons (Try.sizeOf33) ?_
  refine all_cons (Try.sizeOf34) ?_
  refine all_cons (Try.sizeOf35) ?_
  refine all_cons (Try.sizeOf36) ?_
  refine all_cons (Try.sizeOf37) ?_
  refine all_cons (Try.sizeOf38) ?_
  refine all_cons (Try.sizeOf39) ?_
  refine all_cons (Try.sizeOf40) ?_
  refine all_cons (Try.sizeOf41) ?_
  refine all_cons (Try.sizeOf42) ?_
  refine all_cons (Try.sizeOf43) ?_
  refine all_cons (Try.sizeOf44) ?_
  refine all_cons (Try.sizeOf45) ?_
  refine all_cons (Try.sizeOf46) ?_
  refine all_cons (Try.sizeOf47) ?_
  refine all_cons (Try.sizeOf48) ?_
  refine all_cons (Try.sizeOf49) ?_
  refine all_cons (Try.sizeOf50) ?_
  refine all_cons (Try.sizeOf51) ?_
  refine all_cons (Try.sizeOf52) ?_
  refine all_cons (Try.sizeOf53) ?_
  refine all_cons (Try.sizeOf54) ?_
  refine all_cons (Try.sizeOf55) ?_
  refine all_cons (Try.sizeOf56) ?_
  refine all_cons (Try.sizeOf57) ?_
  refine all_cons (Try.sizeOf58) ?_
  refine all_cons (Try.sizeOf59) ?_
  refine all_cons (Try.sizeOf60) ?_
  refine all_cons (Try.sizeOf61) ?_
  refine all_cons (Try.sizeOf62) ?_
  refine all_cons (Try.sizeOf63) ?_
  refine all_cons (Try.sizeOf64) ?_
  refine all_cons (Try.sizeOf65) ?_
  refine all_cons (Try.sizeOf66) ?_
  refine all_cons (Try.sizeOf67) ?_
  refine all_cons (Try.sizeOf68) ?_
  refine all_cons (Try.sizeOf69) ?_
  refine all_cons (Try.sizeOf70) ?_
  refine all_cons (Try.sizeOf71) ?_
  refine all_cons (Try.sizeOf72) ?_
  refine all_cons (Try.sizeOf73) ?_
  refine all_cons (Try.sizeOf74) ?_
  refine all_cons (Try.sizeOf75) ?_
  refine all_cons (Try.sizeOf76) ?_
  refine all_cons (Try.sizeOf77) ?_
  refine all_cons (Try.sizeOf78) ?_
  refine all_cons (Try.sizeOf79) ?_
  refine all_cons (Try.sizeOf80) ?_
  refine all_cons (Try.sizeOf81) ?_
  refine all_cons (Try.sizeOf82) ?_
  refine all_cons (Try.sizeOf83) ?_
  refine all_cons (Try.sizeOf84) ?_
  refine all_cons (Try.sizeOf85) ?_
  refine all_cons (Try.sizeOf86) ?_
  refine all_cons (Try.sizeOf87) ?_
  refine all_cons (Try.sizeOf88) ?_
  refine all_cons (Try.sizeOf89) ?_
  refine all_cons (Try.sizeOf90) ?_
  refine all_cons (Try.sizeOf91) ?_
  refine all_cons (Try.sizeOf92) ?_
  refine all_cons (Try.sizeOf93) ?_
  refine all_cons (Try.sizeOf94) ?_
  refine all_cons (Try.sizeOf95) ?_
  exact fun _ h => nomatch h

theorem tabB_ok : ∀ x ∈ tabB, ∀ w, ∃ i, (typeInfo x.1).run Try.prog w = .ok i w ∧ i.bytes = x.2 := by
  refine all_cons (fun w => ⟨_, Try.typeInfo0 w, rfl⟩) ?_
  refine all_cons (fun w => ⟨_, Try.typeInfo1 w, rfl⟩) ?_
  refine all_cons (fun w => ⟨_, Try.typeInfo2 w, rfl⟩) ?_
  refine all_cons (fun w => ⟨_, Try.typeInfo3 w, rfl⟩) ?_
  refine all_cons (fun w => ⟨_, Try.typeInfo4 w, rfl⟩) ?_
  refine all_cons (fun w => ⟨_, Try.typeInfo5 w, rfl⟩) ?_
  refine all_cons (fun w => ⟨_, Try.typeInfo6 w, rfl⟩) ?_
  refine all_cons (fun w => ⟨_, Try.typeInfo7 w, rfl⟩) ?_
  refine all_cons (fun w => ⟨_, Try.typeInfo8 w, rfl⟩) ?_
  refine all_cons (fun w => ⟨_, Try.typeInfo9 w, rfl⟩) ?_
  refine all_cons (fun w => ⟨_, Try.typeInfo10 w, rfl⟩) ?_
  refine all_cons (fun w => ⟨_, Try.typeInfo11 w, rfl⟩) ?_
  refine all_cons (fun w => ⟨_, Try.typeInfo12 w, rfl⟩) ?_
  refine all_cons (fun w => ⟨_, Try.typeInfo13 w, rfl⟩) ?_
  refine all_cons (fun w => ⟨_, Try.typeInfo14 w, rfl⟩) ?_
  refine all_cons (fun w => ⟨_, Try.typeInfo15 w, rfl⟩) ?_
  refine all_cons (fun w => ⟨_, Try.typeInfo16 w, rfl⟩) ?_
  refine all_cons (fun w => ⟨_, Try.typeInfo17 w, rfl⟩) ?_
  refine all_cons (fun w => ⟨_, Try.typeInfo18 w, rfl⟩) ?_
  refine all_cons (fun w => ⟨_, Try.typeInfo19 w, rfl⟩) ?_
  refine all_cons (fun w => ⟨_, Try.typeInfo20 w, rfl⟩) ?_
  refine all_cons (fun w => ⟨_, Try.typeInfo21 w, rfl⟩) ?_
  refine all_cons (fun w => ⟨_, Try.typeInfo22 w, rfl⟩) ?_
  refine all_cons (fun w => ⟨_, Try.typeInfo23 w, rfl⟩) ?_
  refine all_cons (fun w => ⟨_, Try.typeInfo24 w, rfl⟩) ?_
  refine all_cons (fun w => ⟨_, Try.typeInfo25 w, rfl⟩) ?_
  refine all_cons (fun w => ⟨_, Try.typeInfo26 w, rfl⟩) ?_
  refine all_cons (fun w => ⟨_, Try.typeInfo27 w, rfl⟩) ?_
  refine all_cons (fun w => ⟨_, Try.typeInfo28 w, rfl⟩) ?_
  refine all_cons (fun w => ⟨_, Try.typeInfo29 w, rfl⟩) ?_
  refine all_cons (fun w => ⟨_, Try.typeInfo30 w, rfl⟩) ?_
  refine all_cons (fun w => ⟨_, Try.typeInfo31 w, rfl⟩) ?_
  refine all_cons (fun w => ⟨_, Try.typeInfo32 w, rfl⟩) ?_
  refine all_cons (fun w => ⟨_, Try.typeInfo33 w, rfl⟩) ?_
  refine all_cons (fun w => ⟨_, Try.typeInfo34 w, rfl⟩) ?_
  refine all_cons (fun w => ⟨_, Try.typeInfo35 w, rfl⟩) ?_
  refine all_cons (fun w => ⟨_, Try.typeInfo36 w, rfl⟩) ?_
  refine all_cons (fun w => ⟨_, Try.typeInfo37 w, rfl⟩) ?_
  refine all_cons (fun w => ⟨_, Try.typeInfo38 w, rfl⟩) ?_
  refine all_cons (fun w => ⟨_, Try.typeInfo39 w, rfl⟩) ?_
  refine all_cons (fun w => ⟨_, Try.typeInfo40 w, rfl⟩) ?_
  refine all_cons (fun w => ⟨_, Try.typeInfo41 w, rfl⟩) ?_
  refine all_cons (fun w => ⟨_, Try.typeInfo42 w, rfl⟩) ?_
  refine all_cons (fun w => ⟨_, Try.typeInfo43 w, rfl⟩) ?_
  refine all_cons (fun w => ⟨_, Try.typeInfo44 w, rfl⟩) ?_
  refine all_cons (fun w => ⟨_, Try.typeInfo45 w, rfl⟩) ?_
  refine all_cons (fun w => ⟨_, Try.typeInfo46 w, rfl⟩) ?_
  refine all_cons (fun w => ⟨_, Try.typeInfo47 w, rfl⟩) ?_
  refine all_cons (fun w => ⟨_, Try.typeInfo48 w, rfl⟩) ?_
  refine all_cons (fun w => ⟨_, Try.typeInfo49 w, rfl⟩) ?_
  refine all_cons (fun w => ⟨_, Try.typeInfo50 w, rfl⟩) ?_
  refine all_cons (fun w => ⟨_, Try.typeInfo51 w, rfl⟩) ?_
  refine all_cons (fun w => ⟨_, Try.typeInfo52 w, rfl⟩) ?_
  refine all_cons (fun w => ⟨_, Try.typeInfo53 w, rfl⟩) ?_
  refine all_cons (fun w => ⟨_, Try.typeInfo54 w, rfl⟩) ?_
  refine all_cons (fun w => ⟨_, Try.typeInfo55 w, rfl⟩) ?_
  refine all_cons (fun w => ⟨_, Try.typeInfo56 w, rfl⟩) ?_
  refine all_cons (fun w => ⟨_, Try.typeInfo57 w, rfl⟩) ?_
  refine all_cons (fun w => ⟨_, Try.typeInfo58 w, rfl⟩) ?_
  refine all_cons (fun w => ⟨_, Try.typeInfo59 w, rfl⟩) ?_
  refine all_cons (fun w => ⟨_, Try.typeInfo60 w, rfl⟩) ?_
  refine all_cons (fun w => ⟨_, Try.typeInfo61 w, rfl⟩) ?_
  refine all_cons (fun w => ⟨_, Try.typeInfo62 w, rfl⟩) ?_
  refine all_cons (fun w => ⟨_, Try.typeInfo63 w, rfl⟩) ?_
  refine all_cons (fun w => ⟨_, Try.typeInfo64 w, rfl⟩) ?_
  refine all_cons (fun w => ⟨_, Try.typeInfo65 w, rfl⟩) ?_
  refine all_cons (fun w => ⟨_, Try.typeInfo66 w, rfl⟩) ?_
  refine all_cons (fun w => ⟨_, Try.typeInfo67 w, rfl⟩) ?_
  refine all_cons (fun w => ⟨_, Try.typeInfo68 w, rfl⟩) ?_
  refine all_cons (fun w => ⟨_, Try.typeInfo69 w, rfl⟩) ?_
  refine all_cons (fun w => ⟨_, Try.typeInfo70 w, rfl⟩) ?_
  refine all_cons (fun w => ⟨_, Try.typeInfo71 w, rfl⟩) ?_
  refine all_cons (fun w => ⟨_, Try.typeInfo72 w, rfl⟩) ?_
  refine all_cons (fun w => ⟨_, Try.typeInfo73 w, rfl⟩) ?_
  refine all_cons (fun w => ⟨_, Try.typeInfo74 w, rfl⟩) ?_
  refine all_cons (fun w => ⟨_, Try.typeInfo75 w, rfl⟩) ?_
  refine all_cons (fun w => ⟨_, Try.typeInfo76 w, rfl⟩) ?_
  refine all_cons (fun w => ⟨_, Try.typeInfo77 w, rfl⟩) ?_
  refine all_cons (fun w => ⟨_, Try.typeInfo78 w, rfl⟩) ?_
  refine all_cons (fun w => ⟨_, Try.typeInfo79 w, rfl⟩) ?_
  refine all_cons (fun w => ⟨_, Try.typeInfo80 w, rfl⟩) ?_
  refine all_cons (fun w => ⟨_, Try.typeInfo81 w, rfl⟩) ?_
  refine all_cons (fun w => ⟨_, Try.typeInfo82 w, rfl⟩) ?_
  refine all_cons (fun w => ⟨_, Try.typeInfo83 w, rfl⟩) ?_
  refine all_cons (fun w => ⟨_, Try.typeInfo84 w, rfl⟩) ?_
  refine all_cons (fun w => ⟨_, Try.typeInfo85 w, rfl⟩) ?_
  refine all_cons (fun w => ⟨_, Try.typeInfo86 w, rfl⟩) ?_
  refine all_cons (fun w => ⟨_, Try.typeInfo87 w, rfl⟩) ?_
  refine all_cons (fun w => ⟨_, Try.typeInfo88 w, rfl⟩) ?_
  refine all_cons (fun w => ⟨_, Try.typeInfo89 w, rfl⟩) ?_
  refine all_cons (fun w => ⟨_, Try.typeInfo90 w, rfl⟩) ?_
  refine all_cons (fun w => ⟨_, Try.typeInfo91 w, rfl⟩) ?_
  refine all_cons (fun w => ⟨_, Try.typeInfo92 w, rfl⟩) ?_
  refine all_cons (fun w => ⟨_, Try.typeInfo93 w, rfl⟩) ?_
  refine all_cons (fun w => ⟨_, Try.typeInfo94 w, rfl⟩) ?_
  refine all_cons (fun w => ⟨_, Try.typeInfo95 w, rfl⟩) ?_
  exact fun _ h => nomatch h

theorem tabZ_ok : ∀ x ∈ tabZ, ∀ w, (zeroValue x.1).run Try.prog w = .ok x.2 w := by
  refine all_cons (Try.zeroValue0) ?_
  refine all_cons (Try.zeroValue1) ?_
  refine all_cons (Try.zeroValue2) ?_
  refine all_cons (Try.zeroValue3) ?_
  refine all_cons (Try.zeroValue4) ?_
  refine all_cons (Try.zeroValue5) ?_
  refine all_cons (Try.zeroValue6) ?_
  refine all_cons (Try.zeroValue7) ?_
  refine all_cons (Try.zeroValue8) ?_
  refine all_cons (Try.zeroValue9) ?_
  refine all_cons (Try.zeroValue10) ?_
  refine all_cons (Try.zeroValue11) ?_
  refine all_cons (Try.zeroValue12) ?_
  refine all_cons (Try.zeroValue13) ?_
  refine all_cons (Try.zeroValue14) ?_
  refine all_cons (Try.zeroValue15) ?_
  refine all_cons (Try.zeroValue16) ?_
  refine all_cons (Try.zeroValue17) ?_
  refine all_cons (Try.zeroValue18) ?_
  refine all_cons (Try.zeroValue19) ?_
  refine all_cons (Try.zeroValue20) ?_
  refine all_cons (Try.zeroValue21) ?_
  refine all_cons (Try.zeroValue22) ?_
  refine all_cons (Try.zeroValue23) ?_
  refine all_cons (Try.zeroValue24) ?_
  refine all_cons (Try.zeroValue25) ?_
  refine all_cons (Try.zeroValue26) ?_
  refine all_cons (Try.zeroValue27) ?_
  refine all_cons (Try.zeroValue28) ?_
  refine all_cons (Try.zeroValue29) ?_
  refine all_cons (Try.zeroValue30) ?_
  refine all_cons (Try.zeroValue31) ?_
  refine all_cons (Try.zeroValue32) ?_
  refine all_cons (Try.zeroValue33) ?_
  refine all_cons (Try.zeroValue34) ?_
  refine all_cons (Try.zeroValue35) ?_
  refine all_cons (Try.zeroValue36) ?_
  refine all_cons (Try.zeroValue37) ?_
  refine all_cons (Try.zeroValue38) ?_
  refine all_cons (Try.zeroValue39) ?_
  refine all_cons (Try.zeroValue40) ?_
  refine all_cons (Try.zeroValue41) ?_
  refine all_cons (Try.zeroValue42) ?_
  refine all_cons (Try.zeroValue43) ?_
  refine all_cons (Try.zeroValue44) ?_
  refine all_cons (Try.zeroValue45) ?_
  refine all_cons (Try.zeroValue46) ?_
  refine all_cons (Try.zeroValue47) ?_
  refine all_cons (Try.zeroValue48) ?_
  refine all_cons (Try.zeroValue49) ?_
  refine all_cons (Try.zeroValue50) ?_
  refine all_cons (Try.zeroValue51) ?_
  refine all_cons (Try.zeroValue52) ?_
  refine all_cons (Try.zeroValue53) ?_
  refine all_cons (Try.zeroValue54) ?_
  refine all_cons (Try.zeroValue55) ?_
  refine all_cons (Try.zeroValue56) ?_
  refine all_cons (Try.zeroValue57) ?_
  refine all_cons (Try.zeroValue58) ?_
  refine all_cons (Try.zeroValue59) ?_
  refine all_cons (Try.zeroValue60) ?_
  refine all_cons (Try.zeroValue61) ?_
  refine all_cons (Try.zeroValue62) ?_
  refine all_cons (Try.zeroValue63) ?_
  refine all_cons (Try.zeroValue64) ?_
  refine all_cons (Try.zeroValue65) ?_
  refine all_cons (Try.zeroValue66) ?_
  refine all_cons (Try.zeroValue67) ?_
  refine all_cons (Try.zeroValue68) ?_
  refine all_cons (Try.zeroValue69) ?_
  refine all_cons (Try.zeroValue70) ?_
  refine all_cons (Try.zeroValue71) ?_
  refine all_cons (Try.zeroValue72) ?_
  refine all_cons (Try.zeroValue73) ?_
  refine all_cons (Try.zeroValue74) ?_
  refine all_cons (Try.zeroValue75) ?_
  refine all_cons (Try.zeroValue76) ?_
  refine all_cons (Try.zeroValue77) ?_
  refine all_cons (Try.zeroValue78) ?_
  refine all_cons (Try.zeroValue79) ?_
  refine all_cons (Try.zeroValue80) ?_
  refine all_cons (Try.zeroValue81) ?_
  refine all_cons (Try.zeroValue82) ?_
  refine all_cons (Try.zeroValue83) ?_
  refine all_cons (Try.zeroValue84) ?_
  refine all_cons (Try.zeroValue85) ?_
  refine all_cons (Try.zeroValue86) ?_
  refine all_cons (Try.zeroValue87) ?_
  refine all_cons (Try.zeroValue88) ?_
  refine all_cons (Try.zeroValue89) ?_
  refine all_cons (Try.zeroValue90) ?_
  refine all_cons (Try.zeroValue91) ?_
  refine all_cons (Try.zeroValue92) ?_
  refine all_cons (Try.zeroValue93) ?_
  refine all_cons (Try.zeroValue94) ?_
  refine all_cons (Try.zeroValue95) ?_
  exact fun _ h => nomatch h

theorem tok : TabOk Try.prog tab := ⟨tabD_ok, tabS_ok, tabB_ok, tabZ_ok⟩

end Go.Proofs.Ytmkjajeanjidkaa
