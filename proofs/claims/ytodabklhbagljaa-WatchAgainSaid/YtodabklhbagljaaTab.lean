/- What is known of the types of this seat: written by a program, off the seat's own facts. -/
import Derived.Test.YtodabklhbagljaaProg
import Derived.Test.YtodabklhbagljaaVc
namespace Go.Proofs.Ytodabklhbagljaa
open Go Go.Vc

theorem all_cons {α : Type} {p : α → Prop} {x : α} {l : List α} (h : p x) (r : ∀ y ∈ l, p y) : ∀ y ∈ x :: l, p y := fun y hy => by
  cases hy with
  | head => exact h
  | tail _ hy => exact r y hy

def tabD : List (Nat × TypeDesc) := [(0, Go.TypeDesc.tuple #[]), (1, Go.TypeDesc.func #[] #[] false), (2, Go.TypeDesc.int Go.IntKind.i64), (3, Go.TypeDesc.int Go.IntKind.i64), (4, Go.TypeDesc.bool), (5, Go.TypeDesc.int Go.IntKind.u8), (6, Go.TypeDesc.int Go.IntKind.u8), (7, Go.TypeDesc.struct #[{ name := "x", type := 2, offset := 0, embedded := false, tag := "", pkgPath := "runtime", byteOffset := 0 }, { name := "y", type := 3, offset := 1, embedded := false, tag := "", pkgPath := "runtime", byteOffset := 8 }, { name := "signed", type := 4, offset := 2, embedded := false, tag := "", pkgPath := "runtime", byteOffset := 16 }, { name := "code", type := 6, offset := 3, embedded := false, tag := "", pkgPath := "runtime", byteOffset := 17 }]), (8, Go.TypeDesc.struct #[{ name := "x", type := 2, offset := 0, embedded := false, tag := "", pkgPath := "runtime", byteOffset := 0 }, { name := "y", type := 3, offset := 1, embedded := false, tag := "", pkgPath := "runtime", byteOffset := 8 }, { name := "signed", type := 4, offset := 2, embedded := false, tag := "", pkgPath := "runtime", byteOffset := 16 }, { name := "code", type := 6, offset := 3, embedded := false, tag := "", pkgPath := "runtime", byteOffset := 17 }]), (9, Go.TypeDesc.string), (10, Go.TypeDesc.string), (11, Go.TypeDesc.string), (12, Go.TypeDesc.int Go.IntKind.u64), (13, Go.TypeDesc.struct #[{ name := "msg", type := 9, offset := 0, embedded := false, tag := "", pkgPath := "runtime", byteOffset := 0 }, { name := "addr", type := 12, offset := 1, embedded := false, tag := "", pkgPath := "runtime", byteOffset := 16 }]), (14, Go.TypeDesc.struct #[{ name := "msg", type := 9, offset := 0, embedded := false, tag := "", pkgPath := "runtime", byteOffset := 0 }, { name := "addr", type := 12, offset := 1, embedded := false, tag := "", pkgPath := "runtime", byteOffset := 16 }]), (15, Go.TypeDesc.pointer 137), (16, Go.TypeDesc.pointer 140), (17, Go.TypeDesc.pointer 148), (18, Go.TypeDesc.struct #[{ name := "typ", type := 17, offset := 0, embedded := false, tag := "", pkgPath := "internal/runtime/maps", byteOffset := 0 }]), (19, Go.TypeDesc.struct #[{ name := "typ", type := 17, offset := 0, embedded := false, tag := "", pkgPath := "internal/runtime/maps", byteOffset := 0 }]), (20, Go.TypeDesc.interface #[]), (21, Go.TypeDesc.int Go.IntKind.i32), (22, Go.TypeDesc.slice 25), (23, Go.TypeDesc.struct #[{ name := "Vars", type := 3, offset := 0, embedded := false, tag := "", pkgPath := "", byteOffset := 0 }, { name := "Clauses", type := 22, offset := 1, embedded := false, tag := "", pkgPath := "", byteOffset := 8 }]), (24, Go.TypeDesc.struct #[{ name := "Vars", type := 3, offset := 0, embedded := false, tag := "", pkgPath := "", byteOffset := 0 }, { name := "Clauses", type := 22, offset := 1, embedded := false, tag := "", pkgPath := "", byteOffset := 8 }]), (25, Go.TypeDesc.slice 32), (26, Go.TypeDesc.func #[] #[4] false), (27, Go.TypeDesc.pointer 40), (28, Go.TypeDesc.func #[3] #[27] false), (29, Go.TypeDesc.int Go.IntKind.i64), (30, Go.TypeDesc.tuple #[3, 29]), (31, Go.TypeDesc.func #[25] #[3, 29] true), (32, Go.TypeDesc.int Go.IntKind.i32), (33, Go.TypeDesc.func #[32] #[3] false), (34, Go.TypeDesc.pointer 86), (35, Go.TypeDesc.slice 72), (36, Go.TypeDesc.slice 37), (37, Go.TypeDesc.slice 3), (38, Go.TypeDesc.slice 83), (39, Go.TypeDesc.struct #[{ name := "Trail", type := 34, offset := 0, embedded := true, tag := "", pkgPath := "", byteOffset := 0 }, { name := "clauses", type := 35, offset := 1, embedded := false, tag := "", pkgPath := "lariat/watch", byteOffset := 8 }, { name := "watches", type := 36, offset := 2, embedded := false, tag := "", pkgPath := "lariat/watch", byteOffset := 32 }, { name := "fresh", type := 37, offset := 3, embedded := false, tag := "", pkgPath := "lariat/watch", byteOffset := 56 }, { name := "youngs", type := 38, offset := 4, embedded := false, tag := "", pkgPath := "lariat/watch", byteOffset := 80 }, { name := "head", type := 3, offset := 5, embedded := false, tag := "", pkgPath := "lariat/watch", byteOffset := 104 }]), (40, Go.TypeDesc.struct #[{ name := "Trail", type := 34, offset := 0, embedded := true, tag := "", pkgPath := "", byteOffset := 0 }, { name := "clauses", type := 35, offset := 1, embedded := false, tag := "", pkgPath := "lariat/watch", byteOffset := 8 }, { name := "watches", type := 36, offset := 2, embedded := false, tag := "", pkgPath := "lariat/watch", byteOffset := 32 }, { name := "fresh", type := 37, offset := 3, embedded := false, tag := "", pkgPath := "lariat/watch", byteOffset := 56 }, { name := "youngs", type := 38, offset := 4, embedded := false, tag := "", pkgPath := "lariat/watch", byteOffset := 80 }, { name := "head", type := 3, offset := 5, embedded := false, tag := "", pkgPath := "lariat/watch", byteOffset := 104 }]), (41, Go.TypeDesc.func #[32] #[29] false), (42, Go.TypeDesc.func #[] #[3] false), (43, Go.TypeDesc.func #[24, 25, 3] #[4] false), (44, Go.TypeDesc.array 2 3), (45, Go.TypeDesc.func #[24, 25, 44] #[4] false), (46, Go.TypeDesc.func #[3] #[29] false), (47, Go.TypeDesc.func #[] #[25] false), (48, Go.TypeDesc.tuple #[25, 4, 3]), (49, Go.TypeDesc.func #[25] #[25, 4, 3] false), (50, Go.TypeDesc.func #[25, 25] #[4] false), (51, Go.TypeDesc.func #[24, 25] #[4] false), (52, Go.TypeDesc.slice 58), (53, Go.TypeDesc.func #[52] #[4] false), (54, Go.TypeDesc.slice 4), (55, Go.TypeDesc.struct #[{ name := "Vars", type := 3, offset := 0, embedded := false, tag := "", pkgPath := "", byteOffset := 0 }, { name := "Clauses", type := 22, offset := 1, embedded := false, tag := "", pkgPath := "", byteOffset := 8 }, { name := "Present", type := 54, offset := 2, embedded := false, tag := "", pkgPath := "", byteOffset := 32 }, { name := "Decided", type := 25, offset := 3, embedded := false, tag := "", pkgPath := "", byteOffset := 56 }]), (56, Go.TypeDesc.struct #[{ name := "Vars", type := 3, offset := 0, embedded := false, tag := "", pkgPath := "", byteOffset := 0 }, { name := "Clauses", type := 22, offset := 1, embedded := false, tag := "", pkgPath := "", byteOffset := 8 }, { name := "Present", type := 54, offset := 2, embedded := false, tag := "", pkgPath := "", byteOffset := 32 }, { name := "Decided", type := 25, offset := 3, embedded := false, tag := "", pkgPath := "", byteOffset := 56 }]), (57, Go.TypeDesc.struct #[{ name := "Kind", type := 3, offset := 0, embedded := false, tag := "", pkgPath := "", byteOffset := 0 }, { name := "Clause", type := 25, offset := 1, embedded := false, tag := "", pkgPath := "", byteOffset := 8 }, { name := "N", type := 3, offset := 2, embedded := false, tag := "", pkgPath := "", byteOffset := 32 }]), (58, Go.TypeDesc.struct #[{ name := "Kind", type := 3, offset := 0, embedded := false, tag := "", pkgPath := "", byteOffset := 0 }, { name := "Clause", type := 25, offset := 1, embedded := false, tag := "", pkgPath := "", byteOffset := 8 }, { name := "N", type := 3, offset := 2, embedded := false, tag := "", pkgPath := "", byteOffset := 32 }]), (59, Go.TypeDesc.func #[56, 25] #[4] false), (60, Go.TypeDesc.tuple #[25, 4]), (61, Go.TypeDesc.func #[3] #[25, 4] false), (62, Go.TypeDesc.func #[27, 56, 3] #[4] false), (63, Go.TypeDesc.func #[3] #[3] false), (64, Go.TypeDesc.func #[3, 52] #[4] false), (65, Go.TypeDesc.func #[3] #[34] false), (66, Go.TypeDesc.tuple #[25, 4, 29]), (67, Go.TypeDesc.func #[25] #[25, 4, 29] true), (68, Go.TypeDesc.func #[25, 69] #[4] false), (69, Go.TypeDesc.func #[32] #[4] false), (70, Go.TypeDesc.func #[25] #[] false), (71, Go.TypeDesc.struct #[{ name := "lits", type := 25, offset := 0, embedded := false, tag := "", pkgPath := "lariat/watch", byteOffset := 0 }, { name := "present", type := 4, offset := 1, embedded := false, tag := "", pkgPath := "lariat/watch", byteOffset := 24 }, { name := "idle", type := 4, offset := 2, embedded := false, tag := "", pkgPath := "lariat/watch", byteOffset := 25 }]), (72, Go.TypeDesc.struct #[{ name := "lits", type := 25, offset := 0, embedded := false, tag := "", pkgPath := "lariat/watch", byteOffset := 0 }, { name := "present", type := 4, offset := 1, embedded := false, tag := "", pkgPath := "lariat/watch", byteOffset := 24 }, { name := "idle", type := 4, offset := 2, embedded := false, tag := "", pkgPath := "lariat/watch", byteOffset := 25 }]), (73, Go.TypeDesc.func #[3] #[] false), (74, Go.TypeDesc.pointer 77), (75, Go.TypeDesc.func #[32] #[74] false), (76, Go.TypeDesc.struct #[{ name := "value", type := 3, offset := 0, embedded := false, tag := "", pkgPath := "lariat/trail", byteOffset := 0 }, { name := "level", type := 3, offset := 1, embedded := false, tag := "", pkgPath := "lariat/trail", byteOffset := 8 }, { name := "reason", type := 3, offset := 2, embedded := false, tag := "", pkgPath := "lariat/trail", byteOffset := 16 }]), (77, Go.TypeDesc.struct #[{ name := "value", type := 3, offset := 0, embedded := false, tag := "", pkgPath := "lariat/trail", byteOffset := 0 }, { name := "level", type := 3, offset := 1, embedded := false, tag := "", pkgPath := "lariat/trail", byteOffset := 8 }, { name := "reason", type := 3, offset := 2, embedded := false, tag := "", pkgPath := "lariat/trail", byteOffset := 16 }]), (78, Go.TypeDesc.func #[3] #[4] false), (79, Go.TypeDesc.func #[3] #[32] false), (80, Go.TypeDesc.tuple #[25, 29]), (81, Go.TypeDesc.func #[3] #[25, 29] false), (82, Go.TypeDesc.struct #[{ name := "id", type := 3, offset := 0, embedded := false, tag := "", pkgPath := "lariat/watch", byteOffset := 0 }, { name := "level", type := 3, offset := 1, embedded := false, tag := "", pkgPath := "lariat/watch", byteOffset := 8 }]), (83, Go.TypeDesc.struct #[{ name := "id", type := 3, offset := 0, embedded := false, tag := "", pkgPath := "lariat/watch", byteOffset := 0 }, { name := "level", type := 3, offset := 1, embedded := false, tag := "", pkgPath := "lariat/watch", byteOffset := 8 }]), (84, Go.TypeDesc.slice 77), (85, Go.TypeDesc.struct #[{ name := "marks", type := 84, offset := 0, embedded := false, tag := "", pkgPath := "lariat/trail", byteOffset := 0 }, { name := "list", type := 25, offset := 1, embedded := false, tag := "", pkgPath := "lariat/trail", byteOffset := 24 }, { name := "levels", type := 37, offset := 2, embedded := false, tag := "", pkgPath := "lariat/trail", byteOffset := 48 }]), (86, Go.TypeDesc.struct #[{ name := "marks", type := 84, offset := 0, embedded := false, tag := "", pkgPath := "lariat/trail", byteOffset := 0 }, { name := "list", type := 25, offset := 1, embedded := false, tag := "", pkgPath := "lariat/trail", byteOffset := 24 }, { name := "levels", type := 37, offset := 2, embedded := false, tag := "", pkgPath := "lariat/trail", byteOffset := 48 }]), (87, Go.TypeDesc.func #[25] #[4] false), (88, Go.TypeDesc.func #[25, 32] #[4] false), (89, Go.TypeDesc.func #[32, 32] #[4] false), (90, Go.TypeDesc.slice 3), (91, Go.TypeDesc.tuple #[90, 4]), (92, Go.TypeDesc.func #[56] #[90, 4] false), (93, Go.TypeDesc.func #[27, 3] #[4] false), (94, Go.TypeDesc.func #[90] #[3] false), (95, Go.TypeDesc.func #[3] #[77] false), (96, Go.TypeDesc.func #[25] #[4] true), (97, Go.TypeDesc.func #[25] #[25] false), (98, Go.TypeDesc.func #[25, 99] #[] false), (99, Go.TypeDesc.func #[32, 32] #[3] false), (100, Go.TypeDesc.func #[25, 69] #[3] false), (101, Go.TypeDesc.func #[32, 3] #[29] false), (102, Go.TypeDesc.pointer 72), (103, Go.TypeDesc.func #[102, 3, 32] #[4] false), (104, Go.TypeDesc.func #[90, 32] #[3] false), (105, Go.TypeDesc.func #[90, 32] #[90] false), (106, Go.TypeDesc.func #[90, 22] #[90, 4] false), (107, Go.TypeDesc.func #[56] #[22] false), (108, Go.TypeDesc.func #[25, 3, 3, 3, 99] #[] false), (109, Go.TypeDesc.func #[110] #[3] false), (110, Go.TypeDesc.int Go.IntKind.u64), (111, Go.TypeDesc.func #[3, 3] #[3] false), (112, Go.TypeDesc.tuple #[4, 3, 32]), (113, Go.TypeDesc.func #[90, 25] #[4, 3, 32] false), (114, Go.TypeDesc.func #[25, 3, 3, 99] #[] false), (115, Go.TypeDesc.int Go.IntKind.i64), (116, Go.TypeDesc.tuple #[3, 115]), (117, Go.TypeDesc.func #[25, 3, 3, 99] #[3, 115] false), (118, Go.TypeDesc.func #[25, 3, 3, 99] #[4] false), (119, Go.TypeDesc.func #[25, 3, 3, 3, 99] #[3] false), (120, Go.TypeDesc.tuple #[3, 4]), (121, Go.TypeDesc.func #[25, 3, 3, 3, 99] #[3, 4] false), (122, Go.TypeDesc.func #[123] #[3] false), (123, Go.TypeDesc.int Go.IntKind.u32), (124, Go.TypeDesc.func #[125] #[3] false), (125, Go.TypeDesc.int Go.IntKind.u64), (126, Go.TypeDesc.int Go.IntKind.u64), (127, Go.TypeDesc.func #[3] #[110] false), (128, Go.TypeDesc.func #[] #[125] false), (129, Go.TypeDesc.func #[25, 3, 130, 99] #[3] false), (130, Go.TypeDesc.pointer 3), (131, Go.TypeDesc.func #[25, 3, 3, 3, 130, 99] #[3] false), (132, Go.TypeDesc.pointer 126), (133, Go.TypeDesc.tuple #[3, 3]), (134, Go.TypeDesc.func #[25, 3, 3, 130, 99] #[3, 3] false), (135, Go.TypeDesc.func #[] #[9] false), (136, Go.TypeDesc.struct #[{ name := "_interface", type := 17, offset := 0, embedded := false, tag := "", pkgPath := "runtime", byteOffset := 0 }, { name := "concrete", type := 17, offset := 1, embedded := false, tag := "", pkgPath := "runtime", byteOffset := 8 }, { name := "asserted", type := 17, offset := 2, embedded := false, tag := "", pkgPath := "runtime", byteOffset := 16 }, { name := "missingMethod", type := 9, offset := 3, embedded := false, tag := "", pkgPath := "runtime", byteOffset := 24 }]), (137, Go.TypeDesc.struct #[{ name := "_interface", type := 17, offset := 0, embedded := false, tag := "", pkgPath := "runtime", byteOffset := 0 }, { name := "concrete", type := 17, offset := 1, embedded := false, tag := "", pkgPath := "runtime", byteOffset := 8 }, { name := "asserted", type := 17, offset := 2, embedded := false, tag := "", pkgPath := "runtime", byteOffset := 16 }, { name := "missingMethod", type := 9, offset := 3, embedded := false, tag := "", pkgPath := "runtime", byteOffset := 24 }]), (138, Go.TypeDesc.array 0 16), (139, Go.TypeDesc.struct #[{ name := "_", type := 138, offset := 0, embedded := false, tag := "", pkgPath := "runtime", byteOffset := 0 }]), (140, Go.TypeDesc.struct #[{ name := "_", type := 138, offset := 0, embedded := false, tag := "", pkgPath := "runtime", byteOffset := 0 }]), (141, Go.TypeDesc.int Go.IntKind.u8), (142, Go.TypeDesc.int Go.IntKind.u8), (143, Go.TypeDesc.func #[149, 149] #[4] false), (144, Go.TypeDesc.pointer 5), (145, Go.TypeDesc.int Go.IntKind.i32), (146, Go.TypeDesc.int Go.IntKind.i32), (147, Go.TypeDesc.struct #[{ name := "Size_", type := 12, offset := 0, embedded := false, tag := "", pkgPath := "", byteOffset := 0 }, { name := "PtrBytes", type := 12, offset := 1, embedded := false, tag := "", pkgPath := "", byteOffset := 8 }, { name := "Hash", type := 123, offset := 2, embedded := false, tag := "", pkgPath := "", byteOffset := 16 }, { name := "TFlag", type := 141, offset := 3, embedded := false, tag := "", pkgPath := "", byteOffset := 20 }, { name := "Align_", type := 5, offset := 4, embedded := false, tag := "", pkgPath := "", byteOffset := 21 }, { name := "FieldAlign_", type := 5, offset := 5, embedded := false, tag := "", pkgPath := "", byteOffset := 22 }, { name := "Kind_", type := 142, offset := 6, embedded := false, tag := "", pkgPath := "", byteOffset := 23 }, { name := "Equal", type := 143, offset := 7, embedded := false, tag := "", pkgPath := "", byteOffset := 24 }, { name := "GCData", type := 144, offset := 8, embedded := false, tag := "", pkgPath := "", byteOffset := 32 }, { name := "Str", type := 145, offset := 9, embedded := false, tag := "", pkgPath := "", byteOffset := 40 }, { name := "PtrToThis", type := 146, offset := 10, embedded := false, tag := "", pkgPath := "", byteOffset := 44 }]), (148, Go.TypeDesc.struct #[{ name := "Size_", type := 12, offset := 0, embedded := false, tag := "", pkgPath := "", byteOffset := 0 }, { name := "PtrBytes", type := 12, offset := 1, embedded := false, tag := "", pkgPath := "", byteOffset := 8 }, { name := "Hash", type := 123, offset := 2, embedded := false, tag := "", pkgPath := "", byteOffset := 16 }, { name := "TFlag", type := 141, offset := 3, embedded := false, tag := "", pkgPath := "", byteOffset := 20 }, { name := "Align_", type := 5, offset := 4, embedded := false, tag := "", pkgPath := "", byteOffset := 21 }, { name := "FieldAlign_", type := 5, offset := 5, embedded := false, tag := "", pkgPath := "", byteOffset := 22 }, { name := "Kind_", type := 142, offset := 6, embedded := false, tag := "", pkgPath := "", byteOffset := 23 }, { name := "Equal", type := 143, offset := 7, embedded := false, tag := "", pkgPath := "", byteOffset := 24 }, { name := "GCData", type := 144, offset := 8, embedded := false, tag := "", pkgPath := "", byteOffset := 32 }, { name := "Str", type := 145, offset := 9, embedded := false, tag := "", pkgPath := "", byteOffset := 40 }, { name := "PtrToThis", type := 146, offset := 10, embedded := false, tag := "", pkgPath := "", byteOffset := 44 }]), (149, Go.TypeDesc.unsafePointer)]
def tabS : List (Nat × Nat) := [(0, 1), (1, 1), (2, 1), (3, 1), (4, 1), (5, 1), (6, 1), (7, 4), (8, 4), (9, 1), (10, 1), (11, 1), (12, 1), (13, 2), (14, 2), (15, 1), (16, 1), (17, 1), (18, 1), (19, 1), (20, 1), (21, 1), (22, 1), (23, 2), (24, 2), (25, 1), (26, 1), (27, 1), (28, 1), (29, 1), (30, 1), (31, 1), (32, 1), (33, 1), (34, 1), (35, 1), (36, 1), (37, 1), (38, 1), (39, 6), (40, 6), (41, 1), (42, 1), (43, 1), (44, 2), (45, 1), (46, 1), (47, 1), (48, 1), (49, 1), (50, 1), (51, 1), (52, 1), (53, 1), (54, 1), (55, 4), (56, 4), (57, 3), (58, 3), (59, 1), (60, 1), (61, 1), (62, 1), (63, 1), (64, 1), (65, 1), (66, 1), (67, 1), (68, 1), (69, 1), (70, 1), (71, 3), (72, 3), (73, 1), (74, 1), (75, 1), (76, 3), (77, 3), (78, 1), (79, 1), (80, 1), (81, 1), (82, 2), (83, 2), (84, 1), (85, 3), (86, 3), (87, 1), (88, 1), (89, 1), (90, 1), (91, 1), (92, 1), (93, 1), (94, 1), (95, 1), (96, 1), (97, 1), (98, 1), (99, 1), (100, 1), (101, 1), (102, 1), (103, 1), (104, 1), (105, 1), (106, 1), (107, 1), (108, 1), (109, 1), (110, 1), (111, 1), (112, 1), (113, 1), (114, 1), (115, 1), (116, 1), (117, 1), (118, 1), (119, 1), (120, 1), (121, 1), (122, 1), (123, 1), (124, 1), (125, 1), (126, 1), (127, 1), (128, 1), (129, 1), (130, 1), (131, 1), (132, 1), (133, 1), (134, 1), (135, 1), (136, 4), (137, 4), (138, 0), (139, 0), (140, 0), (141, 1), (142, 1), (143, 1), (144, 1), (145, 1), (146, 1), (147, 11), (148, 11), (149, 1)]
def tabB : List (Nat × Nat) := [(0, 0), (1, 8), (2, 8), (3, 8), (4, 1), (5, 1), (6, 1), (7, 24), (8, 24), (9, 16), (10, 16), (11, 16), (12, 8), (13, 24), (14, 24), (15, 8), (16, 8), (17, 8), (18, 8), (19, 8), (20, 16), (21, 4), (22, 24), (23, 32), (24, 32), (25, 24), (26, 8), (27, 8), (28, 8), (29, 8), (30, 0), (31, 8), (32, 4), (33, 8), (34, 8), (35, 24), (36, 24), (37, 24), (38, 24), (39, 112), (40, 112), (41, 8), (42, 8), (43, 8), (44, 16), (45, 8), (46, 8), (47, 8), (48, 0), (49, 8), (50, 8), (51, 8), (52, 24), (53, 8), (54, 24), (55, 80), (56, 80), (57, 40), (58, 40), (59, 8), (60, 0), (61, 8), (62, 8), (63, 8), (64, 8), (65, 8), (66, 0), (67, 8), (68, 8), (69, 8), (70, 8), (71, 32), (72, 32), (73, 8), (74, 8), (75, 8), (76, 24), (77, 24), (78, 8), (79, 8), (80, 0), (81, 8), (82, 16), (83, 16), (84, 24), (85, 72), (86, 72), (87, 8), (88, 8), (89, 8), (90, 24), (91, 0), (92, 8), (93, 8), (94, 8), (95, 8), (96, 8), (97, 8), (98, 8), (99, 8), (100, 8), (101, 8), (102, 8), (103, 8), (104, 8), (105, 8), (106, 8), (107, 8), (108, 8), (109, 8), (110, 8), (111, 8), (112, 0), (113, 8), (114, 8), (115, 8), (116, 0), (117, 8), (118, 8), (119, 8), (120, 0), (121, 8), (122, 8), (123, 4), (124, 8), (125, 8), (126, 8), (127, 8), (128, 8), (129, 8), (130, 8), (131, 8), (132, 8), (133, 0), (134, 8), (135, 8), (136, 40), (137, 40), (138, 0), (139, 0), (140, 0), (141, 1), (142, 1), (143, 8), (144, 8), (145, 4), (146, 4), (147, 48), (148, 48), (149, 8)]
def tabZ : List (Nat × Value) := [(0, (Go.Value.tuple #[])), (1, Go.Value.nilFunc), (2, (Go.Value.int Go.IntKind.i64 0)), (3, (Go.Value.int Go.IntKind.i64 0)), (4, (Go.Value.bool false)), (5, (Go.Value.int Go.IntKind.u8 0)), (6, (Go.Value.int Go.IntKind.u8 0)), (7, (Go.Value.agg #[Go.Value.int Go.IntKind.i64 0, Go.Value.int Go.IntKind.i64 0, Go.Value.bool false, Go.Value.int Go.IntKind.u8 0])), (8, (Go.Value.agg #[Go.Value.int Go.IntKind.i64 0, Go.Value.int Go.IntKind.i64 0, Go.Value.bool false, Go.Value.int Go.IntKind.u8 0])), (9, (Go.Value.string { data := #[] })), (10, (Go.Value.string { data := #[] })), (11, (Go.Value.string { data := #[] })), (12, (Go.Value.int Go.IntKind.u64 0)), (13, (Go.Value.agg #[Go.Value.string { data := #[] }, Go.Value.int Go.IntKind.u64 0])), (14, (Go.Value.agg #[Go.Value.string { data := #[] }, Go.Value.int Go.IntKind.u64 0])), (15, (Go.Value.pointer none)), (16, (Go.Value.pointer none)), (17, (Go.Value.pointer none)), (18, (Go.Value.agg #[Go.Value.pointer none])), (19, (Go.Value.agg #[Go.Value.pointer none])), (20, Go.Value.nilIface), (21, (Go.Value.int Go.IntKind.i32 0)), (22, (Go.Value.slice none 0 0)), (23, (Go.Value.agg #[Go.Value.int Go.IntKind.i64 0, Go.Value.slice none 0 0])), (24, (Go.Value.agg #[Go.Value.int Go.IntKind.i64 0, Go.Value.slice none 0 0])), (25, (Go.Value.slice none 0 0)), (26, Go.Value.nilFunc), (27, (Go.Value.pointer none)), (28, Go.Value.nilFunc), (29, (Go.Value.int Go.IntKind.i64 0)), (30, (Go.Value.tuple #[Go.Value.int Go.IntKind.i64 0, Go.Value.int Go.IntKind.i64 0])), (31, Go.Value.nilFunc), (32, (Go.Value.int Go.IntKind.i32 0)), (33, Go.Value.nilFunc), (34, (Go.Value.pointer none)), (35, (Go.Value.slice none 0 0)), (36, (Go.Value.slice none 0 0)), (37, (Go.Value.slice none 0 0)), (38, (Go.Value.slice none 0 0)), (39, (Go.Value.agg #[Go.Value.pointer none, Go.Value.slice none 0 0, Go.Value.slice none 0 0, Go.Value.slice none 0 0, Go.Value.slice none 0 0, Go.Value.int Go.IntKind.i64 0])), (40, (Go.Value.agg #[Go.Value.pointer none, Go.Value.slice none 0 0, Go.Value.slice none 0 0, Go.Value.slice none 0 0, Go.Value.slice none 0 0, Go.Value.int Go.IntKind.i64 0])), (41, Go.Value.nilFunc), (42, Go.Value.nilFunc), (43, Go.Value.nilFunc), (44, (Go.Value.agg #[Go.Value.int Go.IntKind.i64 0, Go.Value.int Go.IntKind.i64 0])), (45, Go.Value.nilFunc), (46, Go.Value.nilFunc), (47, Go.Value.nilFunc), (48, (Go.Value.tuple #[Go.Value.slice none 0 0, Go.Value.bool false, Go.Value.int Go.IntKind.i64 0])), (49, Go.Value.nilFunc), (50, Go.Value.nilFunc), (51, Go.Value.nilFunc), (52, (Go.Value.slice none 0 0)), (53, Go.Value.nilFunc), (54, (Go.Value.slice none 0 0)), (55, (Go.Value.agg #[Go.Value.int Go.IntKind.i64 0, Go.Value.slice none 0 0, Go.Value.slice none 0 0, Go.Value.slice none 0 0])), (56, (Go.Value.agg #[Go.Value.int Go.IntKind.i64 0, Go.Value.slice none 0 0, Go.Value.slice none 0 0, Go.Value.slice none 0 0])), (57, (Go.Value.agg #[Go.Value.int Go.IntKind.i64 0, Go.Value.slice none 0 0, Go.Value.int Go.IntKind.i64 0])), (58, (Go.Value.agg #[Go.Value.int Go.IntKind.i64 0, Go.Value.slice none 0 0, Go.Value.int Go.IntKind.i64 0])), (59, Go.Value.nilFunc), (60, (Go.Value.tuple #[Go.Value.slice none 0 0, Go.Value.bool false])), (61, Go.Value.nilFunc), (62, Go.Value.nilFunc), (63, Go.Value.nilFunc), (64, Go.Value.nilFunc), (65, Go.Value.nilFunc), (66, (Go.Value.tuple #[Go.Value.slice none 0 0, Go.Value.bool false, Go.Value.int Go.IntKind.i64 0])), (67, Go.Value.nilFunc), (68, Go.Value.nilFunc), (69, Go.Value.nilFunc), (70, Go.Value.nilFunc), (71, (Go.Value.agg #[Go.Value.slice none 0 0, Go.Value.bool false, Go.Value.bool false])), (72, (Go.Value.agg #[Go.Value.slice none 0 0, Go.Value.bool false, Go.Value.bool false])), (73, Go.Value.nilFunc), (74, (Go.Value.pointer none)), (75, Go.Value.nilFunc), (76, (Go.Value.agg #[Go.Value.int Go.IntKind.i64 0, Go.Value.int Go.IntKind.i64 0, Go.Value.int Go.IntKind.i64 0])), (77, (Go.Value.agg #[Go.Value.int Go.IntKind.i64 0, Go.Value.int Go.IntKind.i64 0, Go.Value.int Go.IntKind.i64 0])), (78, Go.Value.nilFunc), (79, Go.Value.nilFunc), (80, (Go.Value.tuple #[Go.Value.slice none 0 0, Go.Value.int Go.IntKind.i64 0])), (81, Go.Value.nilFunc), (82, (Go.Value.agg #[Go.Value.int Go.IntKind.i64 0, Go.Value.int Go.IntKind.i64 0])), (83, (Go.Value.agg #[Go.Value.int Go.IntKind.i64 0, Go.Value.int Go.IntKind.i64 0])), (84, (Go.Value.slice none 0 0)), (85, (Go.Value.agg #[Go.Value.slice none 0 0, Go.Value.slice none 0 0, Go.Value.slice none 0 0])), (86, (Go.Value.agg #[Go.Value.slice none 0 0, Go.Value.slice none 0 0, Go.Value.slice none 0 0])), (87, Go.Value.nilFunc), (88, Go.Value.nilFunc), (89, Go.Value.nilFunc), (90, (Go.Value.slice none 0 0)), (91, (Go.Value.tuple #[Go.Value.slice none 0 0, Go.Value.bool false])), (92, Go.Value.nilFunc), (93, Go.Value.nilFunc), (94, Go.Value.nilFunc), (95, Go.Value.nilFunc), (96, Go.Value.nilFunc), (97, Go.Value.nilFunc), (98, Go.Value.nilFunc), (99, Go.Value.nilFunc), (100, Go.Value.nilFunc), (101, Go.Value.nilFunc), (102, (Go.Value.pointer none)), (103, Go.Value.nilFunc), (104, Go.Value.nilFunc), (105, Go.Value.nilFunc), (106, Go.Value.nilFunc), (107, Go.Value.nilFunc), (108, Go.Value.nilFunc), (109, Go.Value.nilFunc), (110, (Go.Value.int Go.IntKind.u64 0)), (111, Go.Value.nilFunc), (112, (Go.Value.tuple #[Go.Value.bool false, Go.Value.int Go.IntKind.i64 0, Go.Value.int Go.IntKind.i32 0])), (113, Go.Value.nilFunc), (114, Go.Value.nilFunc), (115, (Go.Value.int Go.IntKind.i64 0)), (116, (Go.Value.tuple #[Go.Value.int Go.IntKind.i64 0, Go.Value.int Go.IntKind.i64 0])), (117, Go.Value.nilFunc), (118, Go.Value.nilFunc), (119, Go.Value.nilFunc), (120, (Go.Value.tuple #[Go.Value.int Go.IntKind.i64 0, Go.Value.bool false])), (121, Go.Value.nilFunc), (122, Go.Value.nilFunc), (123, (Go.Value.int Go.IntKind.u32 0)), (124, Go.Value.nilFunc), (125, (Go.Value.int Go.IntKind.u64 0)), (126, (Go.Value.int Go.IntKind.u64 0)), (127, Go.Value.nilFunc), (128, Go.Value.nilFunc), (129, Go.Value.nilFunc), (130, (Go.Value.pointer none)), (131, Go.Value.nilFunc), (132, (Go.Value.pointer none)), (133, (Go.Value.tuple #[Go.Value.int Go.IntKind.i64 0, Go.Value.int Go.IntKind.i64 0])), (134, Go.Value.nilFunc), (135, Go.Value.nilFunc), (136, (Go.Value.agg #[Go.Value.pointer none, Go.Value.pointer none, Go.Value.pointer none, Go.Value.string { data := #[] }])), (137, (Go.Value.agg #[Go.Value.pointer none, Go.Value.pointer none, Go.Value.pointer none, Go.Value.string { data := #[] }])), (138, (Go.Value.agg #[])), (139, (Go.Value.agg #[])), (140, (Go.Value.agg #[])), (141, (Go.Value.int Go.IntKind.u8 0)), (142, (Go.Value.int Go.IntKind.u8 0)), (143, Go.Value.nilFunc), (144, (Go.Value.pointer none)), (145, (Go.Value.int Go.IntKind.i32 0)), (146, (Go.Value.int Go.IntKind.i32 0)), (147, (Go.Value.agg #[Go.Value.int Go.IntKind.u64 0, Go.Value.int Go.IntKind.u64 0, Go.Value.int Go.IntKind.u32 0, Go.Value.int Go.IntKind.u8 0, Go.Value.int Go.IntKind.u8 0, Go.Value.int Go.IntKind.u8 0, Go.Value.int Go.IntKind.u8 0, Go.Value.nilFunc, Go.Value.pointer none, Go.Value.int Go.IntKind.i32 0, Go.Value.int Go.IntKind.i32 0])), (148, (Go.Value.agg #[Go.Value.int Go.IntKind.u64 0, Go.Value.int Go.IntKind.u64 0, Go.Value.int Go.IntKind.u32 0, Go.Value.int Go.IntKind.u8 0, Go.Value.int Go.IntKind.u8 0, Go.Value.int Go.IntKind.u8 0, Go.Value.int Go.IntKind.u8 0, Go.Value.nilFunc, Go.Value.pointer none, Go.Value.int Go.IntKind.i32 0, Go.Value.int Go.IntKind.i32 0])), (149, (Go.Value.pointer none))]
def tab : Tab := ⟨tabD, tabS, tabB, tabZ⟩

theorem tabD_ok : ∀ x ∈ tabD, Try.prog.underlying x.1 = some x.2 := by
  refine all_cons (Try.underlying0) ?_
  refine all_cons (Try.underlying1) ?_
  refine all_cons (Try.underlying2) ?_
  refine all_cons (Try.underlying3) ?_
  refine all_cons (Try.underlying4) ?_
  refine all_cons (Try.underlying5) ?_
  refine all_cons (Try.underlying6) ?_
  refine all_cons (Try.underlying7) ?_
  refine all_cons (Try.underlying8) ?_
  refine all_cons (Try.underlying9) ?_
  refine all_cons (Try.underlying10) ?_
  refine all_cons (Try.underlying11) ?_
  refine all_cons (Try.underlying12) ?_
  refine all_cons (Try.underlying13) ?_
  refine all_cons (Try.underlying14) ?_
  refine all_cons (Try.underlying15) ?_
  refine all_cons (Try.underlying16) ?_
  refine all_cons (Try.underlying17) ?_
  refine all_cons (Try.underlying18) ?_
  refine all_cons (Try.underlying19) ?_
  refine all_cons (Try.underlying20) ?_
  refine all_cons (Try.underlying21) ?_
  refine all_cons (Try.underlying22) ?_
  refine all_cons (Try.underlying23) ?_
  refine all_cons (Try.underlying24) ?_
  refine all_cons (Try.underlying25) ?_
  refine all_cons (Try.underlying26) ?_
  refine all_cons (Try.underlying27) ?_
  refine all_cons (Try.underlying28) ?_
  refine all_cons (Try.underlying29) ?_
  refine all_cons (Try.underlying30) ?_
  refine all_cons (Try.underlying31) ?_
  refine all_cons (Try.underlying32) ?_
  refine all_cons (Try.underlying33) ?_
  refine all_cons (Try.underlying34) ?_
  refine all_cons (Try.underlying35) ?_
  refine all_cons (Try.underlying36) ?_
  refine all_cons (Try.underlying37) ?_
  refine all_cons (Try.underlying38) ?_
  refine all_cons (Try.underlying39) ?_
  refine all_cons (Try.underlying40) ?_
  refine all_cons (Try.underlying41) ?_
  refine all_cons (Try.underlying42) ?_
  refine all_cons (Try.underlying43) ?_
  refine all_cons (Try.underlying44) ?_
  refine all_cons (Try.underlying45) ?_
  refine all_cons (Try.underlying46) ?_
  refine all_cons (Try.underlying47) ?_
  refine all_cons (Try.underlying48) ?_
  refine all_cons (Try.underlying49) ?_
  refine all_cons (Try.underlying50) ?_
  refine all_cons (Try.underlying51) ?_
  refine all_cons (Try.underlying52) ?_
  refine all_cons (Try.underlying53) ?_
  refine all_cons (Try.underlying54) ?_
  refine all_cons (Try.underlying55) ?_
  refine all_cons (Try.underlying56) ?_
  refine all_cons (Try.underlying57) ?_
  refine all_cons (Try.underlying58) ?_
  refine all_cons (Try.underlying59) ?_
  refine all_cons (Try.underlying60) ?_
  refine all_cons (Try.underlying61) ?_
  refine all_cons (Try.underlying62) ?_
  refine all_cons (Try.underlying63) ?_
  refine all_cons (Try.underlying64) ?_
  refine all_cons (Try.underlying65) ?_
  refine all_cons (Try.underlying66) ?_
  refine all_cons (Try.underlying67) ?_
  refine all_cons (Try.underlying68) ?_
  refine all_cons (Try.underlying69) ?_
  refine all_cons (Try.underlying70) ?_
  refine all_cons (Try.underlying71) ?_
  refine all_cons (Try.underlying72) ?_
  refine all_cons (Try.underlying73) ?_
  refine all_cons (Try.underlying74) ?_
  refine all_cons (Try.underlying75) ?_
  refine all_cons (Try.underlying76) ?_
  refine all_cons (Try.underlying77) ?_
  refine all_cons (Try.underlying78) ?_
  refine all_cons (Try.underlying79) ?_
  refine all_cons (Try.underlying80) ?_
  refine all_cons (Try.underlying81) ?_
  refine all_cons (Try.underlying82) ?_
  refine all_cons (Try.underlying83) ?_
  refine all_cons (Try.underlying84) ?_
  refine all_cons (Try.underlying85) ?_
  refine all_cons (Try.underlying86) ?_
  refine all_cons (Try.underlying87) ?_
  refine all_cons (Try.underlying88) ?_
  refine all_cons (Try.underlying89) ?_
  refine all_cons (Try.underlying90) ?_
  refine all_cons (Try.underlying91) ?_
  refine all_cons (Try.underlying92) ?_
  refine all_cons (Try.underlying93) ?_
  refine all_cons (Try.underlying94) ?_
  refine all_cons (Try.underlying95) ?_
  refine all_cons (Try.underlying96) ?_
  refine all_cons (Try.underlying97) ?_
  refine all_cons (Try.underlying98) ?_
  refine all_cons (Try.underlying99) ?_
  refine all_cons (Try.underlying100) ?_
  refine all_cons (Try.underlying101) ?_
  refine all_cons (Try.underlying102) ?_
  refine all_cons (Try.underlying103) ?_
  refine all_cons (Try.underlying104) ?_
  refine all_cons (Try.underlying105) ?_
  refine all_cons (Try.underlying106) ?_
  refine all_cons (Try.underlying107) ?_
  refine all_cons (Try.underlying108) ?_
  refine all_cons (Try.underlying109) ?_
  refine all_cons (Try.underlying110) ?_
  refine all_cons (Try.underlying111) ?_
  refine all_cons (Try.underlying112) ?_
  refine all_cons (Try.underlying113) ?_
  refine all_cons (Try.underlying114) ?_
  refine all_cons (Try.underlying115) ?_
  refine all_cons (Try.underlying116) ?_
  refine all_cons (Try.underlying117) ?_
  refine all_cons (Try.underlying118) ?_
  refine all_cons (Try.underlying119) ?_
  refine all_cons (Try.underlying120) ?_
  refine all_cons (Try.underlying121) ?_
  refine all_cons (Try.underlying122) ?_
  refine all_cons (Try.underlying123) ?_
  refine all_cons (Try.underlying124) ?_
  refine all_cons (Try.underlying125) ?_
  refine all_cons (Try.underlying126) ?_
  refine all_cons (Try.underlying127) ?_
  refine all_cons (Try.underlying128) ?_
  refine all_cons (Try.underlying129) ?_
  refine all_cons (Try.underlying130) ?_
  refine all_cons (Try.underlying131) ?_
  refine all_cons (Try.underlying132) ?_
  refine all_cons (Try.underlying133) ?_
  refine all_cons (Try.underlying134) ?_
  refine all_cons (Try.underlying135) ?_
  refine all_cons (Try.underlying136) ?_
  refine all_cons (Try.underlying137) ?_
  refine all_cons (Try.underlying138) ?_
  refine all_cons (Try.underlying139) ?_
  refine all_cons (Try.underlying140) ?_
  refine all_cons (Try.underlying141) ?_
  refine all_cons (Try.underlying142) ?_
  refine all_cons (Try.underlying143) ?_
  refine all_cons (Try.underlying144) ?_
  refine all_cons (Try.underlying145) ?_
  refine all_cons (Try.underlying146) ?_
  refine all_cons (Try.underlying147) ?_
  refine all_cons (Try.underlying148) ?_
  refine all_cons (Try.underlying149) ?_
  exact fun _ h => nomatch h

theorem tabS_ok : ∀ x ∈ tabS, ∀ w, (sizeOf x.1).run Try.prog w = .ok x.2 w := by
  refine all_cons (Try.sizeOf0) ?_
  refine all_cons (Try.sizeOf1) ?_
  refine all_cons (Try.sizeOf2) ?_
  refine all_cons (Try.sizeOf3) ?_
  refine all_cons (Try.sizeOf4) ?_
  refine all_cons (Try.sizeOf5) ?_
  refine all_cons (Try.sizeOf6) ?_
  refine all_cons (Try.sizeOf7) ?_
  refine all_cons (Try.sizeOf8) ?_
  refine all_cons (Try.sizeOf9) ?_
  refine all_cons (Try.sizeOf10) ?_
  refine all_cons (Try.sizeOf11) ?_
  refine all_cons (Try.sizeOf12) ?_
  refine all_cons (Try.sizeOf13) ?_
  refine all_cons (Try.sizeOf14) ?_
  refine all_cons (Try.sizeOf15) ?_
  refine all_cons (Try.sizeOf16) ?_
  refine all_cons (Try.sizeOf17) ?_
  refine all_cons (Try.sizeOf18) ?_
  refine all_cons (Try.sizeOf19) ?_
  refine all_cons (Try.sizeOf20) ?_
  refine all_cons (Try.sizeOf21) ?_
  refine all_cons (Try.sizeOf22) ?_
  refine all_cons (Try.sizeOf23) ?_
  refine all_cons (Try.sizeOf24) ?_
  refine all_cons (Try.sizeOf25) ?_
  refine all_cons (Try.sizeOf26) ?_
  refine all_cons (Try.sizeOf27) ?_
  refine all_cons (Try.sizeOf28) ?_
  refine all_cons (Try.sizeOf29) ?_
  refine all_cons (Try.sizeOf30) ?_
  refine all_cons (Try.sizeOf31) ?_
  refine all_cons (Try.sizeOf32) ?_
  refine all_cons (Try.sizeOf33) ?_
  refine all_cons (Try.sizeOf34) ?_
  refine all_cons (Try.sizeOf35) ?_
  refine all_cons (Try.sizeOf36) ?_
  refine all_cons (Try.sizeOf37) ?_
  refine all_cons (Try.sizeOf38) ?_
  refine all_cons (Try.sizeOf39) ?_
  refine all_cons (Try.sizeOf40) ?_
  refine all_cons (Try.sizeOf41) ?_
  refine all_cons (Try.sizeOf42) ?_
  refine all_cons (Try.sizeOf43) ?_
  refine all_cons (Try.sizeOf44) ?_
  refine all_cons (Try.sizeOf45) ?_
  refine all_cons (Try.sizeOf46) ?_
  refine all_cons (Try.sizeOf47) ?_
  refine all_cons (Try.sizeOf48) ?_
  refine all_cons (Try.sizeOf49) ?_
  refine all_cons (Try.sizeOf50) ?_
  refine all_cons (Try.sizeOf51) ?_
  refine all_cons (Try.sizeOf52) ?_
  refine all_cons (Try.sizeOf53) ?_
  refine all_cons (Try.sizeOf54) ?_
  refine all_cons (Try.sizeOf55) ?_
  refine all_cons (Try.sizeOf56) ?_
  refine all_cons (Try.sizeOf57) ?_
  refine all_cons (Try.sizeOf58) ?_
  refine all_cons (Try.sizeOf59) ?_
  refine all_cons (Try.sizeOf60) ?_
  refine all_cons (Try.sizeOf61) ?_
  refine all_cons (Try.sizeOf62) ?_
  refine all_cons (Try.sizeOf63) ?_
  refine all_cons (Try.sizeOf64) ?_
  refine all_cons (Try.sizeOf65) ?_
  refine all_cons (Try.sizeOf66) ?_
  refine all_cons (Try.sizeOf67) ?_
  refine all_cons (Try.sizeOf68) ?_
  refine all_cons (Try.sizeOf69) ?_
  refine all_cons (Try.sizeOf70) ?_
  refine all_cons (Try.sizeOf71) ?_
  refine all_cons (Try.sizeOf72) ?_
  refine all_cons (Try.sizeOf73) ?_
  refine all_cons (Try.sizeOf74) ?_
  refine all_cons (Try.sizeOf75) ?_
  refine all_cons (Try.sizeOf76) ?_
  refine all_cons (Try.sizeOf77) ?_
  refine all_cons (Try.sizeOf78) ?_
  refine all_cons (Try.sizeOf79) ?_
  refine all_cons (Try.sizeOf80) ?_
  refine all_cons (Try.sizeOf81) ?_
  refine all_cons (Try.sizeOf82) ?_
  refine all_cons (Try.sizeOf83) ?_
  refine all_cons (Try.sizeOf84) ?_
  refine all_cons (Try.sizeOf85) ?_
  refine all_cons (Try.sizeOf86) ?_
  refine all_cons (Try.sizeOf87) ?_
  refine all_cons (Try.sizeOf88) ?_
  refine all_cons (Try.sizeOf89) ?_
  refine all_cons (Try.sizeOf90) ?_
  refine all_cons (Try.sizeOf91) ?_
  refine all_cons (Try.sizeOf92) ?_
  refine all_cons (Try.sizeOf93) ?_
  refine all_cons (Try.sizeOf94) ?_
  refine all_cons (Try.sizeOf95) ?_
  refine all_cons (Try.sizeOf96) ?_
  refine all_cons (Try.sizeOf97) ?_
  refine all_cons (Try.sizeOf98) ?_
  refine all_cons (Try.sizeOf99) ?_
  refine all_cons (Try.sizeOf100) ?_
  refine all_cons (Try.sizeOf101) ?_
  refine all_cons (Try.sizeOf102) ?_
  refine all_cons (Try.sizeOf103) ?_
  refine all_cons (Try.sizeOf104) ?_
  refine all_cons (Try.sizeOf105) ?_
  refine all_cons (Try.sizeOf106) ?_
  refine all_cons (Try.sizeOf107) ?_
  refine all_cons (Try.sizeOf108) ?_
  refine all_cons (Try.sizeOf109) ?_
  refine all_cons (Try.sizeOf110) ?_
  refine all_cons (Try.sizeOf111) ?_
  refine all_cons (Try.sizeOf112) ?_
  refine all_cons (Try.sizeOf113) ?_
  refine all_cons (Try.sizeOf114) ?_
  refine all_cons (Try.sizeOf115) ?_
  refine all_cons (Try.sizeOf116) ?_
  refine all_cons (Try.sizeOf117) ?_
  refine all_cons (Try.sizeOf118) ?_
  refine all_cons (Try.sizeOf119) ?_
  refine all_cons (Try.sizeOf120) ?_
  refine all_cons (Try.sizeOf121) ?_
  refine all_cons (Try.sizeOf122) ?_
  refine all_cons (Try.sizeOf123) ?_
  refine all_cons (Try.sizeOf124) ?_
  refine all_cons (Try.sizeOf125) ?_
  refine all_cons (Try.sizeOf126) ?_
  refine all_cons (Try.sizeOf127) ?_
  refine all_cons (Try.sizeOf128) ?_
  refine all_cons (Try.sizeOf129) ?_
  refine all_cons (Try.sizeOf130) ?_
  refine all_cons (Try.sizeOf131) ?_
  refine all_cons (Try.sizeOf132) ?_
  refine all_cons (Try.sizeOf133) ?_
  refine all_cons (Try.sizeOf134) ?_
  refine all_cons (Try.sizeOf135) ?_
  refine all_cons (Try.sizeOf136) ?_
  refine all_cons (Try.sizeOf137) ?_
  refine all_cons (Try.sizeOf138) ?_
  refine all_cons (Try.sizeOf139) ?_
  refine all_cons (Try.sizeOf140) ?_
  refine all_cons (Try.sizeOf141) ?_
  refine all_cons (Try.sizeOf142) ?_
  refine all_cons (Try.sizeOf143) ?_
  refine all_cons (Try.sizeOf144) ?_
  refine all_cons (Try.sizeOf145) ?_
  refine all_cons (Try.sizeOf146) ?_
  refine all_cons (Try.sizeOf147) ?_
  refine all_cons (Try.sizeOf148) ?_
  refine all_cons (Try.sizeOf149) ?_
  exact fun _ h => nomatch h

theorem tabB_ok : ∀ x ∈ tabB, ∀ w, ∃ i, (typeInfo x.1).run Try.prog w = .ok i w ∧ i.bytes = x.2 := by
  refine all_cons (fun w => ⟨_, Try.typeInfo0 w, rfl⟩) ?_
  refine all_cons (fun w => ⟨_, Try.typeInfo1 w, rfl⟩) ?_
  refine all_cons (fun w => ⟨_, Try.typeInfo2 w, rfl⟩) ?_
  refine all_cons (fun w => ⟨_, Try.typeInfo3 w, rfl⟩) ?_
  refine all_cons (fun w => ⟨_, Try.typeInfo4 w, rfl⟩) ?_
  refine all_cons (fun w => ⟨_, Try.typeInfo5 w, rfl⟩) ?_
  refine all_cons (fun w => ⟨_, Try.typeInfo6 w, rfl⟩) ?_
  refine all_cons (fun w => ⟨_, Try.typeInfo7 w, rfl⟩) ?_
  refine all_cons (fun w => ⟨_, Try.typeInfo8 w, rfl⟩) ?_
  refine all_cons (fun w => ⟨_, Try.typeInfo9 w, rfl⟩) ?_
  refine all_cons (fun w => ⟨_, Try.typeInfo10 w, rfl⟩) ?_
  refine all_cons (fun w => ⟨_, Try.typeInfo11 w, rfl⟩) ?_
  refine all_cons (fun w => ⟨_, Try.typeInfo12 w, rfl⟩) ?_
  refine all_cons (fun w => ⟨_, Try.typeInfo13 w, rfl⟩) ?_
  refine all_cons (fun w => ⟨_, Try.typeInfo14 w, rfl⟩) ?_
  refine all_cons (fun w => ⟨_, Try.typeInfo15 w, rfl⟩) ?_
  refine all_cons (fun w => ⟨_, Try.typeInfo16 w, rfl⟩) ?_
  refine all_cons (fun w => ⟨_, Try.typeInfo17 w, rfl⟩) ?_
  refine all_cons (fun w => ⟨_, Try.typeInfo18 w, rfl⟩) ?_
  refine all_cons (fun w => ⟨_, Try.typeInfo19 w, rfl⟩) ?_
  refine all_cons (fun w => ⟨_, Try.typeInfo20 w, rfl⟩) ?_
  refine all_cons (fun w => ⟨_, Try.typeInfo21 w, rfl⟩) ?_
  refine all_cons (fun w => ⟨_, Try.typeInfo22 w, rfl⟩) ?_
  refine all_cons (fun w => ⟨_, Try.typeInfo23 w, rfl⟩) ?_
  refine all_cons (fun w => ⟨_, Try.typeInfo24 w, rfl⟩) ?_
  refine all_cons (fun w => ⟨_, Try.typeInfo25 w, rfl⟩) ?_
  refine all_cons (fun w => ⟨_, Try.typeInfo26 w, rfl⟩) ?_
  refine all_cons (fun w => ⟨_, Try.typeInfo27 w, rfl⟩) ?_
  refine all_cons (fun w => ⟨_, Try.typeInfo28 w, rfl⟩) ?_
  refine all_cons (fun w => ⟨_, Try.typeInfo29 w, rfl⟩) ?_
  refine all_cons (fun w => ⟨_, Try.typeInfo30 w, rfl⟩) ?_
  refine all_cons (fun w => ⟨_, Try.typeInfo31 w, rfl⟩) ?_
  refine all_cons (fun w => ⟨_, Try.typeInfo32 w, rfl⟩) ?_
  refine all_cons (fun w => ⟨_, Try.typeInfo33 w, rfl⟩) ?_
  refine all_cons (fun w => ⟨_, Try.typeInfo34 w, rfl⟩) ?_
  refine all_cons (fun w => ⟨_, Try.typeInfo35 w, rfl⟩) ?_
  refine all_cons (fun w => ⟨_, Try.typeInfo36 w, rfl⟩) ?_
  refine all_cons (fun w => ⟨_, Try.typeInfo37 w, rfl⟩) ?_
  refine all_cons (fun w => ⟨_, Try.typeInfo38 w, rfl⟩) ?_
  refine all_cons (fun w => ⟨_, Try.typeInfo39 w, rfl⟩) ?_
  refine all_cons (fun w => ⟨_, Try.typeInfo40 w, rfl⟩) ?_
  refine all_cons (fun w => ⟨_, Try.typeInfo41 w, rfl⟩) ?_
  refine all_cons (fun w => ⟨_, Try.typeInfo42 w, rfl⟩) ?_
  refine all_cons (fun w => ⟨_, Try.typeInfo43 w, rfl⟩) ?_
  refine all_cons (fun w => ⟨_, Try.typeInfo44 w, rfl⟩) ?_
  refine all_cons (fun w => ⟨_, Try.typeInfo45 w, rfl⟩) ?_
  refine all_cons (fun w => ⟨_, Try.typeInfo46 w, rfl⟩) ?_
  refine all_cons (fun w => ⟨_, Try.typeInfo47 w, rfl⟩) ?_
  refine all_cons (fun w => ⟨_, Try.typeInfo48 w, rfl⟩) ?_
  refine all_cons (fun w => ⟨_, Try.typeInfo49 w, rfl⟩) ?_
  refine all_cons (fun w => ⟨_, Try.typeInfo50 w, rfl⟩) ?_
  refine all_cons (fun w => ⟨_, Try.typeInfo51 w, rfl⟩) ?_
  refine all_cons (fun w => ⟨_, Try.typeInfo52 w, rfl⟩) ?_
  refine all_cons (fun w => ⟨_, Try.typeInfo53 w, rfl⟩) ?_
  refine all_cons (fun w => ⟨_, Try.typeInfo54 w, rfl⟩) ?_
  refine all_cons (fun w => ⟨_, Try.typeInfo55 w, rfl⟩) ?_
  refine all_cons (fun w => ⟨_, Try.typeInfo56 w, rfl⟩) ?_
  refine all_cons (fun w => ⟨_, Try.typeInfo57 w, rfl⟩) ?_
  refine all_cons (fun w => ⟨_, Try.typeInfo58 w, rfl⟩) ?_
  refine all_cons (fun w => ⟨_, Try.typeInfo59 w, rfl⟩) ?_
  refine all_cons (fun w => ⟨_, Try.typeInfo60 w, rfl⟩) ?_
  refine all_cons (fun w => ⟨_, Try.typeInfo61 w, rfl⟩) ?_
  refine all_cons (fun w => ⟨_, Try.typeInfo62 w, rfl⟩) ?_
  refine all_cons (fun w => ⟨_, Try.typeInfo63 w, rfl⟩) ?_
  refine all_cons (fun w => ⟨_, Try.typeInfo64 w, rfl⟩) ?_
  refine all_cons (fun w => ⟨_, Try.typeInfo65 w, rfl⟩) ?_
  refine all_cons (fun w => ⟨_, Try.typeInfo66 w, rfl⟩) ?_
  refine all_cons (fun w => ⟨_, Try.typeInfo67 w, rfl⟩) ?_
  refine all_cons (fun w => ⟨_, Try.typeInfo68 w, rfl⟩) ?_
  refine all_cons (fun w => ⟨_, Try.typeInfo69 w, rfl⟩) ?_
  refine all_cons (fun w => ⟨_, Try.typeInfo70 w, rfl⟩) ?_
  refine all_cons (fun w => ⟨_, Try.typeInfo71 w, rfl⟩) ?_
  refine all_cons (fun w => ⟨_, Try.typeInfo72 w, rfl⟩) ?_
  refine all_cons (fun w => ⟨_, Try.typeInfo73 w, rfl⟩) ?_
  refine all_cons (fun w => ⟨_, Try.typeInfo74 w, rfl⟩) ?_
  refine all_cons (fun w => ⟨_, Try.typeInfo75 w, rfl⟩) ?_
  refine all_cons (fun w => ⟨_, Try.typeInfo76 w, rfl⟩) ?_
  refine all_cons (fun w => ⟨_, Try.typeInfo77 w, rfl⟩) ?_
  refine all_cons (fun w => ⟨_, Try.typeInfo78 w, rfl⟩) ?_
  refine all_cons (fun w => ⟨_, Try.typeInfo79 w, rfl⟩) ?_
  refine all_cons (fun w => ⟨_, Try.typeInfo80 w, rfl⟩) ?_
  refine all_cons (fun w => ⟨_, Try.typeInfo81 w, rfl⟩) ?_
  refine all_cons (fun w => ⟨_, Try.typeInfo82 w, rfl⟩) ?_
  refine all_cons (fun w => ⟨_, Try.typeInfo83 w, rfl⟩) ?_
  refine all_cons (fun w => ⟨_, Try.typeInfo84 w, rfl⟩) ?_
  refine all_cons (fun w => ⟨_, Try.typeInfo85 w, rfl⟩) ?_
  refine all_cons (fun w => ⟨_, Try.typeInfo86 w, rfl⟩) ?_
  refine all_cons (fun w => ⟨_, Try.typeInfo87 w, rfl⟩) ?_
  refine all_cons (fun w => ⟨_, Try.typeInfo88 w, rfl⟩) ?_
  refine all_cons (fun w => ⟨_, Try.typeInfo89 w, rfl⟩) ?_
  refine all_cons (fun w => ⟨_, Try.typeInfo90 w, rfl⟩) ?_
  refine all_cons (fun w => ⟨_, Try.typeInfo91 w, rfl⟩) ?_
  refine all_cons (fun w => ⟨_, Try.typeInfo92 w, rfl⟩) ?_
  refine all_cons (fun w => ⟨_, Try.typeInfo93 w, rfl⟩) ?_
  refine all_cons (fun w => ⟨_, Try.typeInfo94 w, rfl⟩) ?_
  refine all_cons (fun w => ⟨_, Try.typeInfo95 w, rfl⟩) ?_
  refine all_cons (fun w => ⟨_, Try.typeInfo96 w, rfl⟩) ?_
  refine all_cons (fun w => ⟨_, Try.typeInfo97 w, rfl⟩) ?_
  refine all_cons (fun w => ⟨_, Try.typeInfo98 w, rfl⟩) ?_
  refine all_cons (fun w => ⟨_, Try.typeInfo99 w, rfl⟩) ?_
  refine all_cons (fun w => ⟨_, Try.typeInfo100 w, rfl⟩) ?_
  refine all_cons (fun w => ⟨_, Try.typeInfo101 w, rfl⟩) ?_
  refine all_cons (fun w => ⟨_, Try.typeInfo102 w, rfl⟩) ?_
  refine all_cons (fun w => ⟨_, Try.typeInfo103 w, rfl⟩) ?_
  refine all_cons (fun w => ⟨_, Try.typeInfo104 w, rfl⟩) ?_
  refine all_cons (fun w => ⟨_, Try.typeInfo105 w, rfl⟩) ?_
  refine all_cons (fun w => ⟨_, Try.typeInfo106 w, rfl⟩) ?_
  refine all_cons (fun w => ⟨_, Try.typeInfo107 w, rfl⟩) ?_
  refine all_cons (fun w => ⟨_, Try.typeInfo108 w, rfl⟩) ?_
  refine all_cons (fun w => ⟨_, Try.typeInfo109 w, rfl⟩) ?_
  refine all_cons (fun w => ⟨_, Try.typeInfo110 w, rfl⟩) ?_
  refine all_cons (fun w => ⟨_, Try.typeInfo111 w, rfl⟩) ?_
  refine all_cons (fun w => ⟨_, Try.typeInfo112 w, rfl⟩) ?_
  refine all_cons (fun w => ⟨_, Try.typeInfo113 w, rfl⟩) ?_
  refine all_cons (fun w => ⟨_, Try.typeInfo114 w, rfl⟩) ?_
  refine all_cons (fun w => ⟨_, Try.typeInfo115 w, rfl⟩) ?_
  refine all_cons (fun w => ⟨_, Try.typeInfo116 w, rfl⟩) ?_
  refine all_cons (fun w => ⟨_, Try.typeInfo117 w, rfl⟩) ?_
  refine all_cons (fun w => ⟨_, Try.typeInfo118 w, rfl⟩) ?_
  refine all_cons (fun w => ⟨_, Try.typeInfo119 w, rfl⟩) ?_
  refine all_cons (fun w => ⟨_, Try.typeInfo120 w, rfl⟩) ?_
  refine all_cons (fun w => ⟨_, Try.typeInfo121 w, rfl⟩) ?_
  refine all_cons (fun w => ⟨_, Try.typeInfo122 w, rfl⟩) ?_
  refine all_cons (fun w => ⟨_, Try.typeInfo123 w, rfl⟩) ?_
  refine all_cons (fun w => ⟨_, Try.typeInfo124 w, rfl⟩) ?_
  refine all_cons (fun w => ⟨_, Try.typeInfo125 w, rfl⟩) ?_
  refine all_cons (fun w => ⟨_, Try.typeInfo126 w, rfl⟩) ?_
  refine all_cons (fun w => ⟨_, Try.typeInfo127 w, rfl⟩) ?_
  refine all_cons (fun w => ⟨_, Try.typeInfo128 w, rfl⟩) ?_
  refine all_cons (fun w => ⟨_, Try.typeInfo129 w, rfl⟩) ?_
  refine all_cons (fun w => ⟨_, Try.typeInfo130 w, rfl⟩) ?_
  refine all_cons (fun w => ⟨_, Try.typeInfo131 w, rfl⟩) ?_
  refine all_cons (fun w => ⟨_, Try.typeInfo132 w, rfl⟩) ?_
  refine all_cons (fun w => ⟨_, Try.typeInfo133 w, rfl⟩) ?_
  refine all_cons (fun w => ⟨_, Try.typeInfo134 w, rfl⟩) ?_
  refine all_cons (fun w => ⟨_, Try.typeInfo135 w, rfl⟩) ?_
  refine all_cons (fun w => ⟨_, Try.typeInfo136 w, rfl⟩) ?_
  refine all_cons (fun w => ⟨_, Try.typeInfo137 w, rfl⟩) ?_
  refine all_cons (fun w => ⟨_, Try.typeInfo138 w, rfl⟩) ?_
  refine all_cons (fun w => ⟨_, Try.typeInfo139 w, rfl⟩) ?_
  refine all_cons (fun w => ⟨_, Try.typeInfo140 w, rfl⟩) ?_
  refine all_cons (fun w => ⟨_, Try.typeInfo141 w, rfl⟩) ?_
  refine all_cons (fun w => ⟨_, Try.typeInfo142 w, rfl⟩) ?_
  refine all_cons (fun w => ⟨_, Try.typeInfo143 w, rfl⟩) ?_
  refine all_cons (fun w => ⟨_, Try.typeInfo144 w, rfl⟩) ?_
  refine all_cons (fun w => ⟨_, Try.typeInfo145 w, rfl⟩) ?_
  refine all_cons (fun w => ⟨_, Try.typeInfo146 w, rfl⟩) ?_
  refine all_cons (fun w => ⟨_, Try.typeInfo147 w, rfl⟩) ?_
  refine all_cons (fun w => ⟨_, Try.typeInfo148 w, rfl⟩) ?_
  refine all_cons (fun w => ⟨_, Try.typeInfo149 w, rfl⟩) ?_
  exact fun _ h => nomatch h

theorem tabZ_ok : ∀ x ∈ tabZ, ∀ w, (zeroValue x.1).run Try.prog w = .ok x.2 w := by
  refine all_cons (Try.zeroValue0) ?_
  refine all_cons (Try.zeroValue1) ?_
  refine all_cons (Try.zeroValue2) ?_
  refine all_cons (Try.zeroValue3) ?_
  refine all_cons (Try.zeroValue4) ?_
  refine all_cons (Try.zeroValue5) ?_
  refine all_cons (Try.zeroValue6) ?_
  refine all_cons (Try.zeroValue7) ?_
  refine all_cons (Try.zeroValue8) ?_
  refine all_cons (Try.zeroValue9) ?_
  refine all_cons (Try.zeroValue10) ?_
  refine all_cons (Try.zeroValue11) ?_
  refine all_cons (Try.zeroValue12) ?_
  refine all_cons (Try.zeroValue13) ?_
  refine all_cons (Try.zeroValue14) ?_
  refine all_cons (Try.zeroValue15) ?_
  refine all_cons (Try.zeroValue16) ?_
  refine all_cons (Try.zeroValue17) ?_
  refine all_cons (Try.zeroValue18) ?_
  refine all_cons (Try.zeroValue19) ?_
  refine all_cons (Try.zeroValue20) ?_
  refine all_cons (Try.zeroValue21) ?_
  refine all_cons (Try.zeroValue22) ?_
  refine all_cons (Try.zeroValue23) ?_
  refine all_cons (Try.zeroValue24) ?_
  refine all_cons (Try.zeroValue25) ?_
  refine all_cons (Try.zeroValue26) ?_
  refine all_cons (Try.zeroValue27) ?_
  refine all_cons (Try.zeroValue28) ?_
  refine all_cons (Try.zeroValue29) ?_
  refine all_cons (Try.zeroValue30) ?_
  refine all_cons (Try.zeroValue31) ?_
  refine all_cons (Try.zeroValue32) ?_
  refine all_cons (Try.zeroValue33) ?_
  refine all_cons (Try.zeroValue34) ?_
  refine all_cons (Try.zeroValue35) ?_
  refine all_cons (Try.zeroValue36) ?_
  refine all_cons (Try.zeroValue37) ?_
  refine all_cons (Try.zeroValue38) ?_
  refine all_cons (Try.zeroValue39) ?_
  refine all_cons (Try.zeroValue40) ?_
  refine all_cons (Try.zeroValue41) ?_
  refine all_cons (Try.zeroValue42) ?_
  refine all_cons (Try.zeroValue43) ?_
  refine all_cons (Try.zeroValue44) ?_
  refine all_cons (Try.zeroValue45) ?_
  refine all_cons (Try.zeroValue46) ?_
  refine all_cons (Try.zeroValue47) ?_
  refine all_cons (Try.zeroValue48) ?_
  refine all_cons (Try.zeroValue49) ?_
  refine all_cons (Try.zeroValue50) ?_
  refine all_cons (Try.zeroValue51) ?_
  refine all_cons (Try.zeroValue52) ?_
  refine all_cons (Try.zeroValue53) ?_
  refine all_cons (Try.zeroValue54) ?_
  refine all_cons (Try.zeroValue55) ?_
  refine all_cons (Try.zeroValue56) ?_
  refine all_cons (Try.zeroValue57) ?_
  refine all_cons (Try.zeroValue58) ?_
  refine all_cons (Try.zeroValue59) ?_
  refine all_cons (Try.zeroValue60) ?_
  refine all_cons (Try.zeroValue61) ?_
  refine all_cons (Try.zeroValue62) ?_
  refine all_cons (Try.zeroValue63) ?_
  refine all_cons (Try.zeroValue64) ?_
  refine all_cons (Try.zeroValue65) ?_
  refine all_cons (Try.zeroValue66) ?_
  refine all_cons (Try.zeroValue67) ?_
  refine all_cons (Try.zeroValue68) ?_
  refine all_cons (Try.zeroValue69) ?_
  refine all_cons (Try.zeroValue70) ?_
  refine all_cons (Try.zeroValue71) ?_
  refine all_cons (Try.zeroValue72) ?_
  refine all_cons (Try.zeroValue73) ?_
  refine all_cons (Try.zeroValue74) ?_
  refine all_cons (Try.zeroValue75) ?_
  refine all_cons (Try.zeroValue76) ?_
  refine all_cons (Try.zeroValue77) ?_
  refine all_cons (Try.zeroValue78) ?_
  refine all_cons (Try.zeroValue79) ?_
  refine all_cons (Try.zeroValue80) ?_
  refine all_cons (Try.zeroValue81) ?_
  refine all_cons (Try.zeroValue82) ?_
  refine all_cons (Try.zeroValue83) ?_
  refine all_cons (Try.zeroValue84) ?_
  refine all_cons (Try.zeroValue85) ?_
  refine all_cons (Try.zeroValue86) ?_
  refine all_cons (Try.zeroValue87) ?_
  refine all_cons (Try.zeroValue88) ?_
  refine all_cons (Try.zeroValue89) ?_
  refine all_cons (Try.zeroValue90) ?_
  refine all_cons (Try.zeroValue91) ?_
  refine all_cons (Try.zeroValue92) ?_
  refine all_cons (Try.zeroValue93) ?_
  refine all_cons (Try.zeroValue94) ?_
  refine all_cons (Try.zeroValue95) ?_
  refine all_cons (Try.zeroValue96) ?_
  refine all_cons (Try.zeroValue97) ?_
  refine all_cons (Try.zeroValue98) ?_
  refine all_cons (Try.zeroValue99) ?_
  refine all_cons (Try.zeroValue100) ?_
  refine all_cons (Try.zeroValue101) ?_
  refine all_cons (Try.zeroValue102) ?_
  refine all_cons (Try.zeroValue103) ?_
  refine all_cons (Try.zeroValue104) ?_
  refine all_cons (Try.zeroValue105) ?_
  refine all_cons (Try.zeroValue106) ?_
  refine all_cons (Try.zeroValue107) ?_
  refine all_cons (Try.zeroValue108) ?_
  refine all_cons (Try.zeroValue109) ?_
  refine all_cons (Try.zeroValue110) ?_
  refine all_cons (Try.zeroValue111) ?_
  refine all_cons (Try.zeroValue112) ?_
  refine all_cons (Try.zeroValue113) ?_
  refine all_cons (Try.zeroValue114) ?_
  refine all_cons (Try.zeroValue115) ?_
  refine all_cons (Try.zeroValue116) ?_
  refine all_cons (Try.zeroValue117) ?_
  refine all_cons (Try.zeroValue118) ?_
  refine all_cons (Try.zeroValue119) ?_
  refine all_cons (Try.zeroValue120) ?_
  refine all_cons (Try.zeroValue121) ?_
  refine all_cons (Try.zeroValue122) ?_
  refine all_cons (Try.zeroValue123) ?_
  refine all_cons (Try.zeroValue124) ?_
  refine all_cons (Try.zeroValue125) ?_
  refine all_cons (Try.zeroValue126) ?_
  refine all_cons (Try.zeroValue127) ?_
  refine all_cons (Try.zeroValue128) ?_
  refine all_cons (Try.zeroValue129) ?_
  refine all_cons (Try.zeroValue130) ?_
  refine all_cons (Try.zeroValue131) ?_
  refine all_cons (Try.zeroValue132) ?_
  refine all_cons (Try.zeroValue133) ?_
  refine all_cons (Try.zeroValue134) ?_
  refine all_cons (Try.zeroValue135) ?_
  refine all_cons (Try.zeroValue136) ?_
  refine all_cons (Try.zeroValue137) ?_
  refine all_cons (Try.zeroValue138) ?_
  refine all_cons (Try.zeroValue139) ?_
  refine all_cons (Try.zeroValue140) ?_
  refine all_cons (Try.zeroValue141) ?_
  refine all_cons (Try.zeroValue142) ?_
  refine all_cons (Try.zeroValue143) ?_
  refine all_cons (Try.zeroValue144) ?_
  refine all_cons (Try.zeroValue145) ?_
  refine all_cons (Try.zeroValue146) ?_
  refine all_cons (Try.zeroValue147) ?_
  refine all_cons (Try.zeroValue148) ?_
  refine all_cons (Try.zeroValue149) ?_
  exact fun _ h => nomatch h

theorem tok : TabOk Try.prog tab := ⟨tabD_ok, tabS_ok, tabB_ok, tabZ_ok⟩

end Go.Proofs.Ytodabklhbagljaa
