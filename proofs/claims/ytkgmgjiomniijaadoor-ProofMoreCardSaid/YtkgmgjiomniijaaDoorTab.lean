/- What is known of the types of this seat: written by a program, off the seat's own facts. -/
import Derived.Test.YtkgmgjiomniijaaDoorProg
import Derived.Test.YtkgmgjiomniijaaDoorVc
namespace Go.Proofs.YtkgmgjiomniijaaDoor
open Go Go.Vc

theorem all_cons {α : Type} {p : α → Prop} {x : α} {l : List α} (h : p x) (r : ∀ y ∈ l, p y) : ∀ y ∈ x :: l, p y := fun y hy => by
  cases hy with
  | head => exact h
  | tail _ hy => exact r y hy

def tabD : List (Nat × TypeDesc) := [(0, Go.TypeDesc.tuple #[]), (1, Go.TypeDesc.func #[] #[] false), (2, Go.TypeDesc.int Go.IntKind.i64), (3, Go.TypeDesc.int Go.IntKind.i64), (4, Go.TypeDesc.bool), (5, Go.TypeDesc.int Go.IntKind.u8), (6, Go.TypeDesc.int Go.IntKind.u8), (7, Go.TypeDesc.struct #[{ name := "x", type := 2, offset := 0, embedded := false, tag := "", pkgPath := "runtime", byteOffset := 0 }, { name := "y", type := 3, offset := 1, embedded := false, tag := "", pkgPath := "runtime", byteOffset := 8 }, { name := "signed", type := 4, offset := 2, embedded := false, tag := "", pkgPath := "runtime", byteOffset := 16 }, { name := "code", type := 6, offset := 3, embedded := false, tag := "", pkgPath := "runtime", byteOffset := 17 }]), (8, Go.TypeDesc.struct #[{ name := "x", type := 2, offset := 0, embedded := false, tag := "", pkgPath := "runtime", byteOffset := 0 }, { name := "y", type := 3, offset := 1, embedded := false, tag := "", pkgPath := "runtime", byteOffset := 8 }, { name := "signed", type := 4, offset := 2, embedded := false, tag := "", pkgPath := "runtime", byteOffset := 16 }, { name := "code", type := 6, offset := 3, embedded := false, tag := "", pkgPath := "runtime", byteOffset := 17 }]), (9, Go.TypeDesc.string), (10, Go.TypeDesc.string), (11, Go.TypeDesc.string), (12, Go.TypeDesc.int Go.IntKind.u64), (13, Go.TypeDesc.struct #[{ name := "msg", type := 9, offset := 0, embedded := false, tag := "", pkgPath := "runtime", byteOffset := 0 }, { name := "addr", type := 12, offset := 1, embedded := false, tag := "", pkgPath := "runtime", byteOffset := 16 }]), (14, Go.TypeDesc.struct #[{ name := "msg", type := 9, offset := 0, embedded := false, tag := "", pkgPath := "runtime", byteOffset := 0 }, { name := "addr", type := 12, offset := 1, embedded := false, tag := "", pkgPath := "runtime", byteOffset := 16 }]), (15, Go.TypeDesc.pointer 141), (16, Go.TypeDesc.pointer 144), (17, Go.TypeDesc.pointer 152), (18, Go.TypeDesc.struct #[{ name := "typ", type := 17, offset := 0, embedded := false, tag := "", pkgPath := "internal/runtime/maps", byteOffset := 0 }]), (19, Go.TypeDesc.struct #[{ name := "typ", type := 17, offset := 0, embedded := false, tag := "", pkgPath := "internal/runtime/maps", byteOffset := 0 }]), (20, Go.TypeDesc.interface #[]), (21, Go.TypeDesc.int Go.IntKind.i32), (22, Go.TypeDesc.slice 33), (23, Go.TypeDesc.struct #[{ name := "Vars", type := 3, offset := 0, embedded := false, tag := "", pkgPath := "", byteOffset := 0 }, { name := "Clauses", type := 22, offset := 1, embedded := false, tag := "", pkgPath := "", byteOffset := 8 }]), (24, Go.TypeDesc.struct #[{ name := "Vars", type := 3, offset := 0, embedded := false, tag := "", pkgPath := "", byteOffset := 0 }, { name := "Clauses", type := 22, offset := 1, embedded := false, tag := "", pkgPath := "", byteOffset := 8 }]), (25, Go.TypeDesc.slice 37), (26, Go.TypeDesc.func #[] #[4] false), (27, Go.TypeDesc.func #[24, 25] #[4] false), (28, Go.TypeDesc.int Go.IntKind.i64), (29, Go.TypeDesc.tuple #[3, 28]), (30, Go.TypeDesc.func #[24, 25] #[3, 28] true), (31, Go.TypeDesc.func #[24, 25, 22] #[4] false), (32, Go.TypeDesc.int Go.IntKind.i32), (33, Go.TypeDesc.slice 32), (34, Go.TypeDesc.tuple #[4, 28]), (35, Go.TypeDesc.func #[24, 33] #[4, 28] true), (36, Go.TypeDesc.struct #[{ name := "Gone", type := 4, offset := 0, embedded := false, tag := "", pkgPath := "", byteOffset := 0 }, { name := "Clause", type := 33, offset := 1, embedded := false, tag := "", pkgPath := "", byteOffset := 8 }]), (37, Go.TypeDesc.struct #[{ name := "Gone", type := 4, offset := 0, embedded := false, tag := "", pkgPath := "", byteOffset := 0 }, { name := "Clause", type := 33, offset := 1, embedded := false, tag := "", pkgPath := "", byteOffset := 8 }]), (38, Go.TypeDesc.func #[25] #[22] false), (39, Go.TypeDesc.pointer 51), (40, Go.TypeDesc.func #[24, 25, 33] #[39] false), (41, Go.TypeDesc.func #[25] #[3] false), (42, Go.TypeDesc.func #[33] #[4] false), (43, Go.TypeDesc.func #[25, 45] #[4] false), (44, Go.TypeDesc.func #[24, 33] #[4] false), (45, Go.TypeDesc.func #[37] #[4] false), (46, Go.TypeDesc.func #[24] #[4] false), (47, Go.TypeDesc.pointer 68), (48, Go.TypeDesc.func #[3] #[47] false), (49, Go.TypeDesc.map 9 65), (50, Go.TypeDesc.struct #[{ name := "e", type := 47, offset := 0, embedded := false, tag := "", pkgPath := "lariat/proof", byteOffset := 0 }, { name := "extra", type := 32, offset := 1, embedded := false, tag := "", pkgPath := "lariat/proof", byteOffset := 8 }, { name := "ids", type := 49, offset := 2, embedded := false, tag := "", pkgPath := "lariat/proof", byteOffset := 16 }, { name := "front", type := 3, offset := 3, embedded := false, tag := "", pkgPath := "lariat/proof", byteOffset := 24 }]), (51, Go.TypeDesc.struct #[{ name := "e", type := 47, offset := 0, embedded := false, tag := "", pkgPath := "lariat/proof", byteOffset := 0 }, { name := "extra", type := 32, offset := 1, embedded := false, tag := "", pkgPath := "lariat/proof", byteOffset := 8 }, { name := "ids", type := 49, offset := 2, embedded := false, tag := "", pkgPath := "lariat/proof", byteOffset := 16 }, { name := "front", type := 3, offset := 3, embedded := false, tag := "", pkgPath := "lariat/proof", byteOffset := 24 }]), (52, Go.TypeDesc.func #[] #[3] false), (53, Go.TypeDesc.func #[25, 45] #[3] false), (54, Go.TypeDesc.tuple #[33, 4, 28]), (55, Go.TypeDesc.func #[33] #[33, 4, 28] true), (56, Go.TypeDesc.func #[33] #[3] false), (57, Go.TypeDesc.func #[3] #[28] false), (58, Go.TypeDesc.func #[33, 60] #[4] false), (59, Go.TypeDesc.func #[32] #[3] false), (60, Go.TypeDesc.func #[32] #[4] false), (61, Go.TypeDesc.pointer 84), (62, Go.TypeDesc.func #[3] #[61] false), (63, Go.TypeDesc.slice 65), (64, Go.TypeDesc.slice 87), (65, Go.TypeDesc.slice 3), (66, Go.TypeDesc.slice 79), (67, Go.TypeDesc.struct #[{ name := "Trail", type := 61, offset := 0, embedded := true, tag := "", pkgPath := "", byteOffset := 0 }, { name := "clauses", type := 64, offset := 1, embedded := false, tag := "", pkgPath := "lariat/watch", byteOffset := 8 }, { name := "watches", type := 63, offset := 2, embedded := false, tag := "", pkgPath := "lariat/watch", byteOffset := 32 }, { name := "fresh", type := 65, offset := 3, embedded := false, tag := "", pkgPath := "lariat/watch", byteOffset := 56 }, { name := "youngs", type := 66, offset := 4, embedded := false, tag := "", pkgPath := "lariat/watch", byteOffset := 80 }, { name := "head", type := 3, offset := 5, embedded := false, tag := "", pkgPath := "lariat/watch", byteOffset := 104 }]), (68, Go.TypeDesc.struct #[{ name := "Trail", type := 61, offset := 0, embedded := true, tag := "", pkgPath := "", byteOffset := 0 }, { name := "clauses", type := 64, offset := 1, embedded := false, tag := "", pkgPath := "lariat/watch", byteOffset := 8 }, { name := "watches", type := 63, offset := 2, embedded := false, tag := "", pkgPath := "lariat/watch", byteOffset := 32 }, { name := "fresh", type := 65, offset := 3, embedded := false, tag := "", pkgPath := "lariat/watch", byteOffset := 56 }, { name := "youngs", type := 66, offset := 4, embedded := false, tag := "", pkgPath := "lariat/watch", byteOffset := 80 }, { name := "head", type := 3, offset := 5, embedded := false, tag := "", pkgPath := "lariat/watch", byteOffset := 104 }]), (69, Go.TypeDesc.func #[33] #[3, 28] true), (70, Go.TypeDesc.func #[33] #[9] false), (71, Go.TypeDesc.func #[33] #[4] true), (72, Go.TypeDesc.func #[33] #[33] false), (73, Go.TypeDesc.func #[33, 74] #[] false), (74, Go.TypeDesc.func #[32, 32] #[3] false), (75, Go.TypeDesc.func #[32] #[28] false), (76, Go.TypeDesc.tuple #[33, 28]), (77, Go.TypeDesc.func #[3] #[33, 28] false), (78, Go.TypeDesc.struct #[{ name := "id", type := 3, offset := 0, embedded := false, tag := "", pkgPath := "lariat/watch", byteOffset := 0 }, { name := "level", type := 3, offset := 1, embedded := false, tag := "", pkgPath := "lariat/watch", byteOffset := 8 }]), (79, Go.TypeDesc.struct #[{ name := "id", type := 3, offset := 0, embedded := false, tag := "", pkgPath := "lariat/watch", byteOffset := 0 }, { name := "level", type := 3, offset := 1, embedded := false, tag := "", pkgPath := "lariat/watch", byteOffset := 8 }]), (80, Go.TypeDesc.func #[3] #[] false), (81, Go.TypeDesc.func #[33, 60] #[3] false), (82, Go.TypeDesc.slice 100), (83, Go.TypeDesc.struct #[{ name := "marks", type := 82, offset := 0, embedded := false, tag := "", pkgPath := "lariat/trail", byteOffset := 0 }, { name := "list", type := 33, offset := 1, embedded := false, tag := "", pkgPath := "lariat/trail", byteOffset := 24 }, { name := "levels", type := 65, offset := 2, embedded := false, tag := "", pkgPath := "lariat/trail", byteOffset := 48 }]), (84, Go.TypeDesc.struct #[{ name := "marks", type := 82, offset := 0, embedded := false, tag := "", pkgPath := "lariat/trail", byteOffset := 0 }, { name := "list", type := 33, offset := 1, embedded := false, tag := "", pkgPath := "lariat/trail", byteOffset := 24 }, { name := "levels", type := 65, offset := 2, embedded := false, tag := "", pkgPath := "lariat/trail", byteOffset := 48 }]), (85, Go.TypeDesc.func #[33] #[] false), (86, Go.TypeDesc.struct #[{ name := "lits", type := 33, offset := 0, embedded := false, tag := "", pkgPath := "lariat/watch", byteOffset := 0 }, { name := "present", type := 4, offset := 1, embedded := false, tag := "", pkgPath := "lariat/watch", byteOffset := 24 }, { name := "idle", type := 4, offset := 2, embedded := false, tag := "", pkgPath := "lariat/watch", byteOffset := 25 }]), (87, Go.TypeDesc.struct #[{ name := "lits", type := 33, offset := 0, embedded := false, tag := "", pkgPath := "lariat/watch", byteOffset := 0 }, { name := "present", type := 4, offset := 1, embedded := false, tag := "", pkgPath := "lariat/watch", byteOffset := 24 }, { name := "idle", type := 4, offset := 2, embedded := false, tag := "", pkgPath := "lariat/watch", byteOffset := 25 }]), (88, Go.TypeDesc.slice 5), (89, Go.TypeDesc.func #[88, 2, 3] #[88] false), (90, Go.TypeDesc.tuple #[33, 4]), (91, Go.TypeDesc.func #[3] #[33, 4] false), (92, Go.TypeDesc.func #[3] #[3] false), (93, Go.TypeDesc.func #[33, 3, 3, 3, 74] #[] false), (94, Go.TypeDesc.func #[95] #[3] false), (95, Go.TypeDesc.int Go.IntKind.u64), (96, Go.TypeDesc.func #[3, 3] #[3] false), (97, Go.TypeDesc.pointer 100), (98, Go.TypeDesc.func #[32] #[97] false), (99, Go.TypeDesc.struct #[{ name := "value", type := 3, offset := 0, embedded := false, tag := "", pkgPath := "lariat/trail", byteOffset := 0 }, { name := "level", type := 3, offset := 1, embedded := false, tag := "", pkgPath := "lariat/trail", byteOffset := 8 }, { name := "reason", type := 3, offset := 2, embedded := false, tag := "", pkgPath := "lariat/trail", byteOffset := 16 }]), (100, Go.TypeDesc.struct #[{ name := "value", type := 3, offset := 0, embedded := false, tag := "", pkgPath := "lariat/trail", byteOffset := 0 }, { name := "level", type := 3, offset := 1, embedded := false, tag := "", pkgPath := "lariat/trail", byteOffset := 8 }, { name := "reason", type := 3, offset := 2, embedded := false, tag := "", pkgPath := "lariat/trail", byteOffset := 16 }]), (101, Go.TypeDesc.func #[3] #[4] false), (102, Go.TypeDesc.func #[3] #[32] false), (103, Go.TypeDesc.func #[3] #[100] false), (104, Go.TypeDesc.func #[33, 3, 3, 74] #[] false), (105, Go.TypeDesc.int Go.IntKind.i64), (106, Go.TypeDesc.tuple #[3, 105]), (107, Go.TypeDesc.func #[33, 3, 3, 74] #[3, 105] false), (108, Go.TypeDesc.func #[33, 3, 3, 74] #[4] false), (109, Go.TypeDesc.func #[33, 3, 3, 3, 74] #[3] false), (110, Go.TypeDesc.tuple #[3, 4]), (111, Go.TypeDesc.func #[33, 3, 3, 3, 74] #[3, 4] false), (112, Go.TypeDesc.func #[113] #[3] false), (113, Go.TypeDesc.int Go.IntKind.u32), (114, Go.TypeDesc.func #[115] #[3] false), (115, Go.TypeDesc.int Go.IntKind.u64), (116, Go.TypeDesc.func #[32, 3] #[28] false), (117, Go.TypeDesc.pointer 87), (118, Go.TypeDesc.func #[117, 3, 32] #[4] false), (119, Go.TypeDesc.func #[88, 115, 3] #[88] false), (120, Go.TypeDesc.int Go.IntKind.u64), (121, Go.TypeDesc.func #[3] #[95] false), (122, Go.TypeDesc.func #[] #[115] false), (123, Go.TypeDesc.func #[33, 3, 124, 74] #[3] false), (124, Go.TypeDesc.pointer 3), (125, Go.TypeDesc.func #[33, 3, 3, 3, 124, 74] #[3] false), (126, Go.TypeDesc.func #[3] #[9] false), (127, Go.TypeDesc.array 24 5), (128, Go.TypeDesc.func #[88, 115] #[] false), (129, Go.TypeDesc.tuple #[88, 9]), (130, Go.TypeDesc.func #[88, 115, 3, 4, 4] #[88, 9] false), (131, Go.TypeDesc.pointer 120), (132, Go.TypeDesc.tuple #[3, 3]), (133, Go.TypeDesc.func #[33, 3, 3, 124, 74] #[3, 3] false), (134, Go.TypeDesc.func #[4] #[3] false), (135, Go.TypeDesc.array 20 115), (136, Go.TypeDesc.array 65 5), (137, Go.TypeDesc.array 32 5), (138, Go.TypeDesc.array 64 5), (139, Go.TypeDesc.func #[] #[9] false), (140, Go.TypeDesc.struct #[{ name := "_interface", type := 17, offset := 0, embedded := false, tag := "", pkgPath := "runtime", byteOffset := 0 }, { name := "concrete", type := 17, offset := 1, embedded := false, tag := "", pkgPath := "runtime", byteOffset := 8 }, { name := "asserted", type := 17, offset := 2, embedded := false, tag := "", pkgPath := "runtime", byteOffset := 16 }, { name := "missingMethod", type := 9, offset := 3, embedded := false, tag := "", pkgPath := "runtime", byteOffset := 24 }]), (141, Go.TypeDesc.struct #[{ name := "_interface", type := 17, offset := 0, embedded := false, tag := "", pkgPath := "runtime", byteOffset := 0 }, { name := "concrete", type := 17, offset := 1, embedded := false, tag := "", pkgPath := "runtime", byteOffset := 8 }, { name := "asserted", type := 17, offset := 2, embedded := false, tag := "", pkgPath := "runtime", byteOffset := 16 }, { name := "missingMethod", type := 9, offset := 3, embedded := false, tag := "", pkgPath := "runtime", byteOffset := 24 }]), (142, Go.TypeDesc.array 0 16), (143, Go.TypeDesc.struct #[{ name := "_", type := 142, offset := 0, embedded := false, tag := "", pkgPath := "runtime", byteOffset := 0 }]), (144, Go.TypeDesc.struct #[{ name := "_", type := 142, offset := 0, embedded := false, tag := "", pkgPath := "runtime", byteOffset := 0 }]), (145, Go.TypeDesc.int Go.IntKind.u8), (146, Go.TypeDesc.int Go.IntKind.u8), (147, Go.TypeDesc.func #[153, 153] #[4] false), (148, Go.TypeDesc.pointer 5), (149, Go.TypeDesc.int Go.IntKind.i32), (150, Go.TypeDesc.int Go.IntKind.i32), (151, Go.TypeDesc.struct #[{ name := "Size_", type := 12, offset := 0, embedded := false, tag := "", pkgPath := "", byteOffset := 0 }, { name := "PtrBytes", type := 12, offset := 1, embedded := false, tag := "", pkgPath := "", byteOffset := 8 }, { name := "Hash", type := 113, offset := 2, embedded := false, tag := "", pkgPath := "", byteOffset := 16 }, { name := "TFlag", type := 145, offset := 3, embedded := false, tag := "", pkgPath := "", byteOffset := 20 }, { name := "Align_", type := 5, offset := 4, embedded := false, tag := "", pkgPath := "", byteOffset := 21 }, { name := "FieldAlign_", type := 5, offset := 5, embedded := false, tag := "", pkgPath := "", byteOffset := 22 }, { name := "Kind_", type := 146, offset := 6, embedded := false, tag := "", pkgPath := "", byteOffset := 23 }, { name := "Equal", type := 147, offset := 7, embedded := false, tag := "", pkgPath := "", byteOffset := 24 }, { name := "GCData", type := 148, offset := 8, embedded := false, tag := "", pkgPath := "", byteOffset := 32 }, { name := "Str", type := 149, offset := 9, embedded := false, tag := "", pkgPath := "", byteOffset := 40 }, { name := "PtrToThis", type := 150, offset := 10, embedded := false, tag := "", pkgPath := "", byteOffset := 44 }]), (152, Go.TypeDesc.struct #[{ name := "Size_", type := 12, offset := 0, embedded := false, tag := "", pkgPath := "", byteOffset := 0 }, { name := "PtrBytes", type := 12, offset := 1, embedded := false, tag := "", pkgPath := "", byteOffset := 8 }, { name := "Hash", type := 113, offset := 2, embedded := false, tag := "", pkgPath := "", byteOffset := 16 }, { name := "TFlag", type := 145, offset := 3, embedded := false, tag := "", pkgPath := "", byteOffset := 20 }, { name := "Align_", type := 5, offset := 4, embedded := false, tag := "", pkgPath := "", byteOffset := 21 }, { name := "FieldAlign_", type := 5, offset := 5, embedded := false, tag := "", pkgPath := "", byteOffset := 22 }, { name := "Kind_", type := 146, offset := 6, embedded := false, tag := "", pkgPath := "", byteOffset := 23 }, { name := "Equal", type := 147, offset := 7, embedded := false, tag := "", pkgPath := "", byteOffset := 24 }, { name := "GCData", type := 148, offset := 8, embedded := false, tag := "", pkgPath := "", byteOffset := 32 }, { name := "Str", type := 149, offset := 9, embedded := false, tag := "", pkgPath := "", byteOffset := 40 }, { name := "PtrToThis", type := 150, offset := 10, embedded := false, tag := "", pkgPath := "", byteOffset := 44 }]), (153, Go.TypeDesc.unsafePointer)]
def tabS : List (Nat × Nat) := [(0, 1), (1, 1), (2, 1), (3, 1), (4, 1), (5, 1), (6, 1), (7, 4), (8, 4), (9, 1), (10, 1), (11, 1), (12, 1), (13, 2), (14, 2), (15, 1), (16, 1), (17, 1), (18, 1), (19, 1), (20, 1), (21, 1), (22, 1), (23, 2), (24, 2), (25, 1), (26, 1), (27, 1), (28, 1), (29, 1), (30, 1), (31, 1), (32, 1), (33, 1), (34, 1), (35, 1), (36, 2), (37, 2), (38, 1), (39, 1), (40, 1), (41, 1), (42, 1), (43, 1), (44, 1), (45, 1), (46, 1), (47, 1), (48, 1), (49, 1), (50, 4), (51, 4), (52, 1), (53, 1), (54, 1), (55, 1), (56, 1), (57, 1), (58, 1), (59, 1), (60, 1), (61, 1), (62, 1), (63, 1), (64, 1), (65, 1), (66, 1), (67, 6), (68, 6), (69, 1), (70, 1), (71, 1), (72, 1), (73, 1), (74, 1), (75, 1), (76, 1), (77, 1), (78, 2), (79, 2), (80, 1), (81, 1), (82, 1), (83, 3), (84, 3), (85, 1), (86, 3), (87, 3), (88, 1), (89, 1), (90, 1), (91, 1), (92, 1), (93, 1), (94, 1), (95, 1), (96, 1), (97, 1), (98, 1), (99, 3), (100, 3), (101, 1), (102, 1), (103, 1), (104, 1), (105, 1), (106, 1), (107, 1), (108, 1), (109, 1), (110, 1), (111, 1), (112, 1), (113, 1), (114, 1), (115, 1), (116, 1), (117, 1), (118, 1), (119, 1), (120, 1), (121, 1), (122, 1), (123, 1), (124, 1), (125, 1), (126, 1), (127, 24), (128, 1), (129, 1), (130, 1), (131, 1), (132, 1), (133, 1), (134, 1), (135, 20), (136, 65), (137, 32), (138, 64), (139, 1), (140, 4), (141, 4), (142, 0), (143, 0), (144, 0), (145, 1), (146, 1), (147, 1), (148, 1), (149, 1), (150, 1), (151, 11), (152, 11), (153, 1)]
def tabB : List (Nat × Nat) := [(0, 0), (1, 8), (2, 8), (3, 8), (4, 1), (5, 1), (6, 1), (7, 24), (8, 24), (9, 16), (10, 16), (11, 16), (12, 8), (13, 24), (14, 24), (15, 8), (16, 8), (17, 8), (18, 8), (19, 8), (20, 16), (21, 4), (22, 24), (23, 32), (24, 32), (25, 24), (26, 8), (27, 8), (28, 8), (29, 0), (30, 8), (31, 8), (32, 4), (33, 24), (34, 0), (35, 8), (36, 32), (37, 32), (38, 8), (39, 8), (40, 8), (41, 8), (42, 8), (43, 8), (44, 8), (45, 8), (46, 8), (47, 8), (48, 8), (49, 8), (50, 32), (51, 32), (52, 8), (53, 8), (54, 0), (55, 8), (56, 8), (57, 8), (58, 8), (59, 8), (60, 8), (61, 8), (62, 8), (63, 24), (64, 24), (65, 24), (66, 24), (67, 112), (68, 112), (69, 8), (70, 8), (71, 8), (72, 8), (73, 8), (74, 8), (75, 8), (76, 0), (77, 8), (78, 16), (79, 16), (80, 8), (81, 8), (82, 24), (83, 72), (84, 72), (85, 8), (86, 32), (87, 32), (88, 24), (89, 8), (90, 0), (91, 8), (92, 8), (93, 8), (94, 8), (95, 8), (96, 8), (97, 8), (98, 8), (99, 24), (100, 24), (101, 8), (102, 8), (103, 8), (104, 8), (105, 8), (106, 0), (107, 8), (108, 8), (109, 8), (110, 0), (111, 8), (112, 8), (113, 4), (114, 8), (115, 8), (116, 8), (117, 8), (118, 8), (119, 8), (120, 8), (121, 8), (122, 8), (123, 8), (124, 8), (125, 8), (126, 8), (127, 24), (128, 8), (129, 0), (130, 8), (131, 8), (132, 0), (133, 8), (134, 8), (135, 160), (136, 65), (137, 32), (138, 64), (139, 8), (140, 40), (141, 40), (142, 0), (143, 0), (144, 0), (145, 1), (146, 1), (147, 8), (148, 8), (149, 4), (150, 4), (151, 48), (152, 48), (153, 8)]
def tabZ : List (Nat × Value) := [(0, (Go.Value.tuple #[])), (1, Go.Value.nilFunc), (2, (Go.Value.int Go.IntKind.i64 0)), (3, (Go.Value.int Go.IntKind.i64 0)), (4, (Go.Value.bool false)), (5, (Go.Value.int Go.IntKind.u8 0)), (6, (Go.Value.int Go.IntKind.u8 0)), (7, (Go.Value.agg #[Go.Value.int Go.IntKind.i64 0, Go.Value.int Go.IntKind.i64 0, Go.Value.bool false, Go.Value.int Go.IntKind.u8 0])), (8, (Go.Value.agg #[Go.Value.int Go.IntKind.i64 0, Go.Value.int Go.IntKind.i64 0, Go.Value.bool false, Go.Value.int Go.IntKind.u8 0])), (9, (Go.Value.string { data := #[] })), (10, (Go.Value.string { data := #[] })), (11, (Go.Value.string { data := #[] })), (12, (Go.Value.int Go.IntKind.u64 0)), (13, (Go.Value.agg #[Go.Value.string { data := #[] }, Go.Value.int Go.IntKind.u64 0])), (14, (Go.Value.agg #[Go.Value.string { data := #[] }, Go.Value.int Go.IntKind.u64 0])), (15, (Go.Value.pointer none)), (16, (Go.Value.pointer none)), (17, (Go.Value.pointer none)), (18, (Go.Value.agg #[Go.Value.pointer none])), (19, (Go.Value.agg #[Go.Value.pointer none])), (20, Go.Value.nilIface), (21, (Go.Value.int Go.IntKind.i32 0)), (22, (Go.Value.slice none 0 0)), (23, (Go.Value.agg #[Go.Value.int Go.IntKind.i64 0, Go.Value.slice none 0 0])), (24, (Go.Value.agg #[Go.Value.int Go.IntKind.i64 0, Go.Value.slice none 0 0])), (25, (Go.Value.slice none 0 0)), (26, Go.Value.nilFunc), (27, Go.Value.nilFunc), (28, (Go.Value.int Go.IntKind.i64 0)), (29, (Go.Value.tuple #[Go.Value.int Go.IntKind.i64 0, Go.Value.int Go.IntKind.i64 0])), (30, Go.Value.nilFunc), (31, Go.Value.nilFunc), (32, (Go.Value.int Go.IntKind.i32 0)), (33, (Go.Value.slice none 0 0)), (34, (Go.Value.tuple #[Go.Value.bool false, Go.Value.int Go.IntKind.i64 0])), (35, Go.Value.nilFunc), (36, (Go.Value.agg #[Go.Value.bool false, Go.Value.slice none 0 0])), (37, (Go.Value.agg #[Go.Value.bool false, Go.Value.slice none 0 0])), (38, Go.Value.nilFunc), (39, (Go.Value.pointer none)), (40, Go.Value.nilFunc), (41, Go.Value.nilFunc), (42, Go.Value.nilFunc), (43, Go.Value.nilFunc), (44, Go.Value.nilFunc), (45, Go.Value.nilFunc), (46, Go.Value.nilFunc), (47, (Go.Value.pointer none)), (48, Go.Value.nilFunc), (49, (Go.Value.map none)), (50, (Go.Value.agg #[Go.Value.pointer none, Go.Value.int Go.IntKind.i32 0, Go.Value.map none, Go.Value.int Go.IntKind.i64 0])), (51, (Go.Value.agg #[Go.Value.pointer none, Go.Value.int Go.IntKind.i32 0, Go.Value.map none, Go.Value.int Go.IntKind.i64 0])), (52, Go.Value.nilFunc), (53, Go.Value.nilFunc), (54, (Go.Value.tuple #[Go.Value.slice none 0 0, Go.Value.bool false, Go.Value.int Go.IntKind.i64 0])), (55, Go.Value.nilFunc), (56, Go.Value.nilFunc), (57, Go.Value.nilFunc), (58, Go.Value.nilFunc), (59, Go.Value.nilFunc), (60, Go.Value.nilFunc), (61, (Go.Value.pointer none)), (62, Go.Value.nilFunc), (63, (Go.Value.slice none 0 0)), (64, (Go.Value.slice none 0 0)), (65, (Go.Value.slice none 0 0)), (66, (Go.Value.slice none 0 0)), (67, (Go.Value.agg #[Go.Value.pointer none, Go.Value.slice none 0 0, Go.Value.slice none 0 0, Go.Value.slice none 0 0, Go.Value.slice none 0 0, Go.Value.int Go.IntKind.i64 0])), (68, (Go.Value.agg #[Go.Value.pointer none, Go.Value.slice none 0 0, Go.Value.slice none 0 0, Go.Value.slice none 0 0, Go.Value.slice none 0 0, Go.Value.int Go.IntKind.i64 0])), (69, Go.Value.nilFunc), (70, Go.Value.nilFunc), (71, Go.Value.nilFunc), (72, Go.Value.nilFunc), (73, Go.Value.nilFunc), (74, Go.Value.nilFunc), (75, Go.Value.nilFunc), (76, (Go.Value.tuple #[Go.Value.slice none 0 0, Go.Value.int Go.IntKind.i64 0])), (77, Go.Value.nilFunc), (78, (Go.Value.agg #[Go.Value.int Go.IntKind.i64 0, Go.Value.int Go.IntKind.i64 0])), (79, (Go.Value.agg #[Go.Value.int Go.IntKind.i64 0, Go.Value.int Go.IntKind.i64 0])), (80, Go.Value.nilFunc), (81, Go.Value.nilFunc), (82, (Go.Value.slice none 0 0)), (83, (Go.Value.agg #[Go.Value.slice none 0 0, Go.Value.slice none 0 0, Go.Value.slice none 0 0])), (84, (Go.Value.agg #[Go.Value.slice none 0 0, Go.Value.slice none 0 0, Go.Value.slice none 0 0])), (85, Go.Value.nilFunc), (86, (Go.Value.agg #[Go.Value.slice none 0 0, Go.Value.bool false, Go.Value.bool false])), (87, (Go.Value.agg #[Go.Value.slice none 0 0, Go.Value.bool false, Go.Value.bool false])), (88, (Go.Value.slice none 0 0)), (89, Go.Value.nilFunc), (90, (Go.Value.tuple #[Go.Value.slice none 0 0, Go.Value.bool false])), (91, Go.Value.nilFunc), (92, Go.Value.nilFunc), (93, Go.Value.nilFunc), (94, Go.Value.nilFunc), (95, (Go.Value.int Go.IntKind.u64 0)), (96, Go.Value.nilFunc), (97, (Go.Value.pointer none)), (98, Go.Value.nilFunc), (99, (Go.Value.agg #[Go.Value.int Go.IntKind.i64 0, Go.Value.int Go.IntKind.i64 0, Go.Value.int Go.IntKind.i64 0])), (100, (Go.Value.agg #[Go.Value.int Go.IntKind.i64 0, Go.Value.int Go.IntKind.i64 0, Go.Value.int Go.IntKind.i64 0])), (101, Go.Value.nilFunc), (102, Go.Value.nilFunc), (103, Go.Value.nilFunc), (104, Go.Value.nilFunc), (105, (Go.Value.int Go.IntKind.i64 0)), (106, (Go.Value.tuple #[Go.Value.int Go.IntKind.i64 0, Go.Value.int Go.IntKind.i64 0])), (107, Go.Value.nilFunc), (108, Go.Value.nilFunc), (109, Go.Value.nilFunc), (110, (Go.Value.tuple #[Go.Value.int Go.IntKind.i64 0, Go.Value.bool false])), (111, Go.Value.nilFunc), (112, Go.Value.nilFunc), (113, (Go.Value.int Go.IntKind.u32 0)), (114, Go.Value.nilFunc), (115, (Go.Value.int Go.IntKind.u64 0)), (116, Go.Value.nilFunc), (117, (Go.Value.pointer none)), (118, Go.Value.nilFunc), (119, Go.Value.nilFunc), (120, (Go.Value.int Go.IntKind.u64 0)), (121, Go.Value.nilFunc), (122, Go.Value.nilFunc), (123, Go.Value.nilFunc), (124, (Go.Value.pointer none)), (125, Go.Value.nilFunc), (126, Go.Value.nilFunc), (127, (Go.Value.agg #[Go.Value.int Go.IntKind.u8 0, Go.Value.int Go.IntKind.u8 0, Go.Value.int Go.IntKind.u8 0, Go.Value.int Go.IntKind.u8 0, Go.Value.int Go.IntKind.u8 0, Go.Value.int Go.IntKind.u8 0, Go.Value.int Go.IntKind.u8 0, Go.Value.int Go.IntKind.u8 0, Go.Value.int Go.IntKind.u8 0, Go.Value.int Go.IntKind.u8 0, Go.Value.int Go.IntKind.u8 0, Go.Value.int Go.IntKind.u8 0, Go.Value.int Go.IntKind.u8 0, Go.Value.int Go.IntKind.u8 0, Go.Value.int Go.IntKind.u8 0, Go.Value.int Go.IntKind.u8 0, Go.Value.int Go.IntKind.u8 0, Go.Value.int Go.IntKind.u8 0, Go.Value.int Go.IntKind.u8 0, Go.Value.int Go.IntKind.u8 0, Go.Value.int Go.IntKind.u8 0, Go.Value.int Go.IntKind.u8 0, Go.Value.int Go.IntKind.u8 0, Go.Value.int Go.IntKind.u8 0])), (128, Go.Value.nilFunc), (129, (Go.Value.tuple #[Go.Value.slice none 0 0, Go.Value.string { data := #[] }])), (130, Go.Value.nilFunc), (131, (Go.Value.pointer none)), (132, (Go.Value.tuple #[Go.Value.int Go.IntKind.i64 0, Go.Value.int Go.IntKind.i64 0])), (133, Go.Value.nilFunc), (134, Go.Value.nilFunc), (135, (Go.Value.agg #[Go.Value.int Go.IntKind.u64 0, Go.Value.int Go.IntKind.u64 0, Go.Value.int Go.IntKind.u64 0, Go.Value.int Go.IntKind.u64 0, Go.Value.int Go.IntKind.u64 0, Go.Value.int Go.IntKind.u64 0, Go.Value.int Go.IntKind.u64 0, Go.Value.int Go.IntKind.u64 0, Go.Value.int Go.IntKind.u64 0, Go.Value.int Go.IntKind.u64 0, Go.Value.int Go.IntKind.u64 0, Go.Value.int Go.IntKind.u64 0, Go.Value.int Go.IntKind.u64 0, Go.Value.int Go.IntKind.u64 0, Go.Value.int Go.IntKind.u64 0, Go.Value.int Go.IntKind.u64 0, Go.Value.int Go.IntKind.u64 0, Go.Value.int Go.IntKind.u64 0, Go.Value.int Go.IntKind.u64 0, Go.Value.int Go.IntKind.u64 0])), (137, (Go.Value.agg #[Go.Value.int Go.IntKind.u8 0, Go.Value.int Go.IntKind.u8 0, Go.Value.int Go.IntKind.u8 0, Go.Value.int Go.IntKind.u8 0, Go.Value.int Go.IntKind.u8 0, Go.Value.int Go.IntKind.u8 0, Go.Value.int Go.IntKind.u8 0, Go.Value.int Go.IntKind.u8 0, Go.Value.int Go.IntKind.u8 0, Go.Value.int Go.IntKind.u8 0, Go.Value.int Go.IntKind.u8 0, Go.Value.int Go.IntKind.u8 0, Go.Value.int Go.IntKind.u8 0, Go.Value.int Go.IntKind.u8 0, Go.Value.int Go.IntKind.u8 0, Go.Value.int Go.IntKind.u8 0, Go.Value.int Go.IntKind.u8 0, Go.Value.int Go.IntKind.u8 0, Go.Value.int Go.IntKind.u8 0, Go.Value.int Go.IntKind.u8 0, Go.Value.int Go.IntKind.u8 0, Go.Value.int Go.IntKind.u8 0, Go.Value.int Go.IntKind.u8 0, Go.Value.int Go.IntKind.u8 0, Go.Value.int Go.IntKind.u8 0, Go.Value.int Go.IntKind.u8 0, Go.Value.int Go.IntKind.u8 0, Go.Value.int Go.IntKind.u8 0, Go.Value.int Go.IntKind.u8 0, Go.Value.int Go.IntKind.u8 0, Go.Value.int Go.IntKind.u8 0, Go.Value.int Go.IntKind.u8 0])), (138, (Go.Value.agg #[Go.Value.int Go.IntKind.u8 0, Go.Value.int Go.IntKind.u8 0, Go.Value.int Go.IntKind.u8 0, Go.Value.int Go.IntKind.u8 0, Go.Value.int Go.IntKind.u8 0, Go.Value.int Go.IntKind.u8 0, Go.Value.int Go.IntKind.u8 0, Go.Value.int Go.IntKind.u8 0, Go.Value.int Go.IntKind.u8 0, Go.Value.int Go.IntKind.u8 0, Go.Value.int Go.IntKind.u8 0, Go.Value.int Go.IntKind.u8 0, Go.Value.int Go.IntKind.u8 0, Go.Value.int Go.IntKind.u8 0, Go.Value.int Go.IntKind.u8 0, Go.Value.int Go.IntKind.u8 0, Go.Value.int Go.IntKind.u8 0, Go.Value.int Go.IntKind.u8 0, Go.Value.int Go.IntKind.u8 0, Go.Value.int Go.IntKind.u8 0, Go.Value.int Go.IntKind.u8 0, Go.Value.int Go.IntKind.u8 0, Go.Value.int Go.IntKind.u8 0, Go.Value.int Go.IntKind.u8 0, Go.Value.int Go.IntKind.u8 0, Go.Value.int Go.IntKind.u8 0, Go.Value.int Go.IntKind.u8 0, Go.Value.int Go.IntKind.u8 0, Go.Value.int Go.IntKind.u8 0, Go.Value.int Go.IntKind.u8 0, Go.Value.int Go.IntKind.u8 0, Go.Value.int Go.IntKind.u8 0, Go.Value.int Go.IntKind.u8 0, Go.Value.int Go.IntKind.u8 0, Go.Value.int Go.IntKind.u8 0, Go.Value.int Go.IntKind.u8 0, Go.Value.int Go.IntKind.u8 0, Go.Value.int Go.IntKind.u8 0, Go.Value.int Go.IntKind.u8 0, Go.Value.int Go.IntKind.u8 0, Go.Value.int Go.IntKind.u8 0, Go.Value.int Go.IntKind.u8 0, Go.Value.int Go.IntKind.u8 0, Go.Value.int Go.IntKind.u8 0, Go.Value.int Go.IntKind.u8 0, Go.Value.int Go.IntKind.u8 0, Go.Value.int Go.IntKind.u8 0, Go.Value.int Go.IntKind.u8 0, Go.Value.int Go.IntKind.u8 0, Go.Value.int Go.IntKind.u8 0, Go.Value.int Go.IntKind.u8 0, Go.Value.int Go.IntKind.u8 0, Go.Value.int Go.IntKind.u8 0, Go.Value.int Go.IntKind.u8 0, Go.Value.int Go.IntKind.u8 0, Go.Value.int Go.IntKind.u8 0, Go.Value.int Go.IntKind.u8 0, Go.Value.int Go.IntKind.u8 0, Go.Value.int Go.IntKind.u8 0, Go.Value.int Go.IntKind.u8 0, Go.Value.int Go.IntKind.u8 0, Go.Value.int Go.IntKind.u8 0, Go.Value.int Go.IntKind.u8 0, Go.Value.int Go.IntKind.u8 0])), (139, Go.Value.nilFunc), (140, (Go.Value.agg #[Go.Value.pointer none, Go.Value.pointer none, Go.Value.pointer none, Go.Value.string { data := #[] }])), (141, (Go.Value.agg #[Go.Value.pointer none, Go.Value.pointer none, Go.Value.pointer none, Go.Value.string { data := #[] }])), (142, (Go.Value.agg #[])), (143, (Go.Value.agg #[])), (144, (Go.Value.agg #[])), (145, (Go.Value.int Go.IntKind.u8 0)), (146, (Go.Value.int Go.IntKind.u8 0)), (147, Go.Value.nilFunc), (148, (Go.Value.pointer none)), (149, (Go.Value.int Go.IntKind.i32 0)), (150, (Go.Value.int Go.IntKind.i32 0)), (151, (Go.Value.agg #[Go.Value.int Go.IntKind.u64 0, Go.Value.int Go.IntKind.u64 0, Go.Value.int Go.IntKind.u32 0, Go.Value.int Go.IntKind.u8 0, Go.Value.int Go.IntKind.u8 0, Go.Value.int Go.IntKind.u8 0, Go.Value.int Go.IntKind.u8 0, Go.Value.nilFunc, Go.Value.pointer none, Go.Value.int Go.IntKind.i32 0, Go.Value.int Go.IntKind.i32 0])), (152, (Go.Value.agg #[Go.Value.int Go.IntKind.u64 0, Go.Value.int Go.IntKind.u64 0, Go.Value.int Go.IntKind.u32 0, Go.Value.int Go.IntKind.u8 0, Go.Value.int Go.IntKind.u8 0, Go.Value.int Go.IntKind.u8 0, Go.Value.int Go.IntKind.u8 0, Go.Value.nilFunc, Go.Value.pointer none, Go.Value.int Go.IntKind.i32 0, Go.Value.int Go.IntKind.i32 0])), (153, (Go.Value.pointer none))]
def tab : Tab := ⟨tabD, tabS, tabB, tabZ⟩

theorem tabD_ok : ∀ x ∈ tabD, Tryd.prog.underlying x.1 = some x.2 := by
  refine all_cons (Tryd.underlying0) ?_
  refine all_cons (Tryd.underlying1) ?_
  refine all_cons (Tryd.underlying2) ?_
  refine all_cons (Tryd.underlying3) ?_
  refine all_cons (Tryd.underlying4) ?_
  refine all_cons (Tryd.underlying5) ?_
  refine all_cons (Tryd.underlying6) ?_
  refine all_cons (Tryd.underlying7) ?_
  refine all_cons (Tryd.underlying8) ?_
  refine all_cons (Tryd.underlying9) ?_
  refine all_cons (Tryd.underlying10) ?_
  refine all_cons (Tryd.underlying11) ?_
  refine all_cons (Tryd.underlying12) ?_
  refine all_cons (Tryd.underlying13) ?_
  refine all_cons (Tryd.underlying14) ?_
  refine all_cons (Tryd.underlying15) ?_
  refine all_cons (Tryd.underlying16) ?_
  refine all_cons (Tryd.underlying17) ?_
  refine all_cons (Tryd.underlying18) ?_
  refine all_cons (Tryd.underlying19) ?_
  refine all_cons (Tryd.underlying20) ?_
  refine all_cons (Tryd.underlying21) ?_
  refine all_cons (Tryd.underlying22) ?_
  refine all_cons (Tryd.underlying23) ?_
  refine all_cons (Tryd.underlying24) ?_
  refine all_cons (Tryd.underlying25) ?_
  refine all_cons (Tryd.underlying26) ?_
  refine all_cons (Tryd.underlying27) ?_
  refine all_cons (Tryd.underlying28) ?_
  refine all_cons (Tryd.underlying29) ?_
  refine all_cons (Tryd.underlying30) ?_
  refine all_cons (Tryd.underlying31) ?_
  refine all_cons (Tryd.underlying32) ?_
  refine all_cons (Tryd.underlying33) ?_
  refine all_cons (Tryd.underlying34) ?_
  refine all_cons (Tryd.underlying35) ?_
  refine all_cons (Tryd.underlying36) ?_
  refine all_cons (Tryd.underlying37) ?_
  refine all_cons (Tryd.underlying38) ?_
  refine all_cons (Tryd.underlying39) ?_
  refine all_cons (Tryd.underlying40) ?_
  refine all_cons (Tryd.underlying41) ?_
  refine all_cons (Tryd.underlying42) ?_
  refine all_cons (Tryd.underlying43) ?_
  refine all_cons (Tryd.underlying44) ?_
  refine all_cons (Tryd.underlying45) ?_
  refine all_cons (Tryd.underlying46) ?_
  refine all_cons (Tryd.underlying47) ?_
  refine all_cons (Tryd.underlying48) ?_
  refine all_cons (Tryd.underlying49) ?_
  refine all_cons (Tryd.underlying50) ?_
  refine all_cons (Tryd.underlying51) ?_
  refine all_cons (Tryd.underlying52) ?_
  refine all_cons (Tryd.underlying53) ?_
  refine all_cons (Tryd.underlying54) ?_
  refine all_cons (Tryd.underlying55) ?_
  refine all_cons (Tryd.underlying56) ?_
  refine all_cons (Tryd.underlying57) ?_
  refine all_cons (Tryd.underlying58) ?_
  refine all_cons (Tryd.underlying59) ?_
  refine all_cons (Tryd.underlying60) ?_
  refine all_cons (Tryd.underlying61) ?_
  refine all_cons (Tryd.underlying62) ?_
  refine all_cons (Tryd.underlying63) ?_
  refine all_cons (Tryd.underlying64) ?_
  refine all_cons (Tryd.underlying65) ?_
  refine all_cons (Tryd.underlying66) ?_
  refine all_cons (Tryd.underlying67) ?_
  refine all_cons (Tryd.underlying68) ?_
  refine all_cons (Tryd.underlying69) ?_
  refine all_cons (Tryd.underlying70) ?_
  refine all_cons (Tryd.underlying71) ?_
  refine all_cons (Tryd.underlying72) ?_
  refine all_cons (Tryd.underlying73) ?_
  refine all_cons (Tryd.underlying74) ?_
  refine all_cons (Tryd.underlying75) ?_
  refine all_cons (Tryd.underlying76) ?_
  refine all_cons (Tryd.underlying77) ?_
  refine all_cons (Tryd.underlying78) ?_
  refine all_cons (Tryd.underlying79) ?_
  refine all_cons (Tryd.underlying80) ?_
  refine all_cons (Tryd.underlying81) ?_
  refine all_cons (Tryd.underlying82) ?_
  refine all_cons (Tryd.underlying83) ?_
  refine all_cons (Tryd.underlying84) ?_
  refine all_cons (Tryd.underlying85) ?_
  refine all_cons (Tryd.underlying86) ?_
  refine all_cons (Tryd.underlying87) ?_
  refine all_cons (Tryd.underlying88) ?_
  refine all_cons (Tryd.underlying89) ?_
  refine all_cons (Tryd.underlying90) ?_
  refine all_cons (Tryd.underlying91) ?_
  refine all_cons (Tryd.underlying92) ?_
  refine all_cons (Tryd.underlying93) ?_
  refine all_cons (Tryd.underlying94) ?_
  refine all_cons (Tryd.underlying95) ?_
  refine all_cons (Tryd.underlying96) ?_
  refine all_cons (Tryd.underlying97) ?_
  refine all_cons (Tryd.underlying98) ?_
  refine all_cons (Tryd.underlying99) ?_
  refine all_cons (Tryd.underlying100) ?_
  refine all_cons (Tryd.underlying101) ?_
  refine all_cons (Tryd.underlying102) ?_
  refine all_cons (Tryd.underlying103) ?_
  refine all_cons (Tryd.underlying104) ?_
  refine all_cons (Tryd.underlying105) ?_
  refine all_cons (Tryd.underlying106) ?_
  refine all_cons (Tryd.underlying107) ?_
  refine all_cons (Tryd.underlying108) ?_
  refine all_cons (Tryd.underlying109) ?_
  refine all_cons (Tryd.underlying110) ?_
  refine all_cons (Tryd.underlying111) ?_
  refine all_cons (Tryd.underlying112) ?_
  refine all_cons (Tryd.underlying113) ?_
  refine all_cons (Tryd.underlying114) ?_
  refine all_cons (Tryd.underlying115) ?_
  refine all_cons (Tryd.underlying116) ?_
  refine all_cons (Tryd.underlying117) ?_
  refine all_cons (Tryd.underlying118) ?_
  refine all_cons (Tryd.underlying119) ?_
  refine all_cons (Tryd.underlying120) ?_
  refine all_cons (Tryd.underlying121) ?_
  refine all_cons (Tryd.underlying122) ?_
  refine all_cons (Tryd.underlying123) ?_
  refine all_cons (Tryd.underlying124) ?_
  refine all_cons (Tryd.underlying125) ?_
  refine all_cons (Tryd.underlying126) ?_
  refine all_cons (Tryd.underlying127) ?_
  refine all_cons (Tryd.underlying128) ?_
  refine all_cons (Tryd.underlying129) ?_
  refine all_cons (Tryd.underlying130) ?_
  refine all_cons (Tryd.underlying131) ?_
  refine all_cons (Tryd.underlying132) ?_
  refine all_cons (Tryd.underlying133) ?_
  refine all_cons (Tryd.underlying134) ?_
  refine all_cons (Tryd.underlying135) ?_
  refine all_cons (Tryd.underlying136) ?_
  refine all_cons (Tryd.underlying137) ?_
  refine all_cons (Tryd.underlying138) ?_
  refine all_cons (Tryd.underlying139) ?_
  refine all_cons (Tryd.underlying140) ?_
  refine all_cons (Tryd.underlying141) ?_
  refine all_cons (Tryd.underlying142) ?_
  refine all_cons (Tryd.underlying143) ?_
  refine all_cons (Tryd.underlying144) ?_
  refine all_cons (Tryd.underlying145) ?_
  refine all_cons (Tryd.underlying146) ?_
  refine all_cons (Tryd.underlying147) ?_
  refine all_cons (Tryd.underlying148) ?_
  refine all_cons (Tryd.underlying149) ?_
  refine all_cons (Tryd.underlying150) ?_
  refine all_cons (Tryd.underlying151) ?_
  refine all_cons (Tryd.underlying152) ?_
  refine all_cons (Tryd.underlying153) ?_
  exact fun _ h => nomatch h

theorem tabS_ok : ∀ x ∈ tabS, ∀ w, (sizeOf x.1).run Tryd.prog w = .ok x.2 w := by
  refine all_cons (Tryd.sizeOf0) ?_
  refine all_cons (Tryd.sizeOf1) ?_
  refine all_cons (Tryd.sizeOf2) ?_
  refine all_cons (Tryd.sizeOf3) ?_
  refine all_cons (Tryd.sizeOf4) ?_
  refine all_cons (Tryd.sizeOf5) ?_
  refine all_cons (Tryd.sizeOf6) ?_
  refine all_cons (Tryd.sizeOf7) ?_
  refine all_cons (Tryd.sizeOf8) ?_
  refine all_cons (Tryd.sizeOf9) ?_
  refine all_cons (Tryd.sizeOf10) ?_
  refine all_cons (Tryd.sizeOf11) ?_
  refine all_cons (Tryd.sizeOf12) ?_
  refine all_cons (Tryd.sizeOf13) ?_
  refine all_cons (Tryd.sizeOf14) ?_
  refine all_cons (Tryd.sizeOf15) ?_
  refine all_cons (Tryd.sizeOf16) ?_
  refine all_cons (Tryd.sizeOf17) ?_
  refine all_cons (Tryd.sizeOf18) ?_
  refine all_cons (Tryd.sizeOf19) ?_
  refine all_cons (Tryd.sizeOf20) ?_
  refine all_cons (Tryd.sizeOf21) ?_
  refine all_cons (Tryd.sizeOf22) ?_
  refine all_cons (Tryd.sizeOf23) ?_
  refine all_cons (Tryd.sizeOf24) ?_
  refine all_cons (Tryd.sizeOf25) ?_
  refine all_cons (Tryd.sizeOf26) ?_
  refine all_cons (Tryd.sizeOf27) ?_
  refine all_cons (Tryd.sizeOf28) ?_
  refine all_cons (Tryd.sizeOf29) ?_
  refine all_cons (Tryd.sizeOf30) ?_
  refine all_cons (Tryd.sizeOf31) ?_
  refine all_cons (Tryd.sizeOf32) ?_
  refine all_cons (Tryd.sizeOf33) ?_
  refine all_cons (Tryd.sizeOf34) ?_
  refine all_cons (Tryd.sizeOf35) ?_
  refine all_cons (Tryd.sizeOf36) ?_
  refine all_cons (Tryd.sizeOf37) ?_
  refine all_cons (Tryd.sizeOf38) ?_
  refine all_cons (Tryd.sizeOf39) ?_
  refine all_cons (Tryd.sizeOf40) ?_
  refine all_cons (Tryd.sizeOf41) ?_
  refine all_cons (Tryd.sizeOf42) ?_
  refine all_cons (Tryd.sizeOf43) ?_
  refine all_cons (Tryd.sizeOf44) ?_
  refine all_cons (Tryd.sizeOf45) ?_
  refine all_cons (Tryd.sizeOf46) ?_
  refine all_cons (Tryd.sizeOf47) ?_
  refine all_cons (Tryd.sizeOf48) ?_
  refine all_cons (Tryd.sizeOf49) ?_
  refine all_cons (Tryd.sizeOf50) ?_
  refine all_cons (Tryd.sizeOf51) ?_
  refine all_cons (Tryd.sizeOf52) ?_
  refine all_cons (Tryd.sizeOf53) ?_
  refine all_cons (Tryd.sizeOf54) ?_
  refine all_cons (Tryd.sizeOf55) ?_
  refine all_cons (Tryd.sizeOf56) ?_
  refine all_cons (Tryd.sizeOf57) ?_
  refine all_cons (Tryd.sizeOf58) ?_
  refine all_cons (Tryd.sizeOf59) ?_
  refine all_cons (Tryd.sizeOf60) ?_
  refine all_cons (Tryd.sizeOf61) ?_
  refine all_cons (Tryd.sizeOf62) ?_
  refine all_cons (Tryd.sizeOf63) ?_
  refine all_cons (Tryd.sizeOf64) ?_
  refine all_cons (Tryd.sizeOf65) ?_
  refine all_cons (Tryd.sizeOf66) ?_
  refine all_cons (Tryd.sizeOf67) ?_
  refine all_cons (Tryd.sizeOf68) ?_
  refine all_cons (Tryd.sizeOf69) ?_
  refine all_cons (Tryd.sizeOf70) ?_
  refine all_cons (Tryd.sizeOf71) ?_
  refine all_cons (Tryd.sizeOf72) ?_
  refine all_cons (Tryd.sizeOf73) ?_
  refine all_cons (Tryd.sizeOf74) ?_
  refine all_cons (Tryd.sizeOf75) ?_
  refine all_cons (Tryd.sizeOf76) ?_
  refine all_cons (Tryd.sizeOf77) ?_
  refine all_cons (Tryd.sizeOf78) ?_
  refine all_cons (Tryd.sizeOf79) ?_
  refine all_cons (Tryd.sizeOf80) ?_
  refine all_cons (Tryd.sizeOf81) ?_
  refine all_cons (Tryd.sizeOf82) ?_
  refine all_cons (Tryd.sizeOf83) ?_
  refine all_cons (Tryd.sizeOf84) ?_
  refine all_cons (Tryd.sizeOf85) ?_
  refine all_cons (Tryd.sizeOf86) ?_
  refine all_cons (Tryd.sizeOf87) ?_
  refine all_cons (Tryd.sizeOf88) ?_
  refine all_cons (Tryd.sizeOf89) ?_
  refine all_cons (Tryd.sizeOf90) ?_
  refine all_cons (Tryd.sizeOf91) ?_
  refine all_cons (Tryd.sizeOf92) ?_
  refine all_cons (Tryd.sizeOf93) ?_
  refine all_cons (Tryd.sizeOf94) ?_
  refine all_cons (Tryd.sizeOf95) ?_
  refine all_cons (Tryd.sizeOf96) ?_
  refine all_cons (Tryd.sizeOf97) ?_
  refine all_cons (Tryd.sizeOf98) ?_
  refine all_cons (Tryd.sizeOf99) ?_
  refine all_cons (Tryd.sizeOf100) ?_
  refine all_cons (Tryd.sizeOf101) ?_
  refine all_cons (Tryd.sizeOf102) ?_
  refine all_cons (Tryd.sizeOf103) ?_
  refine all_cons (Tryd.sizeOf104) ?_
  refine all_cons (Tryd.sizeOf105) ?_
  refine all_cons (Tryd.sizeOf106) ?_
  refine all_cons (Tryd.sizeOf107) ?_
  refine all_cons (Tryd.sizeOf108) ?_
  refine all_cons (Tryd.sizeOf109) ?_
  refine all_cons (Tryd.sizeOf110) ?_
  refine all_cons (Tryd.sizeOf111) ?_
  refine all_cons (Tryd.sizeOf112) ?_
  refine all_cons (Tryd.sizeOf113) ?_
  refine all_cons (Tryd.sizeOf114) ?_
  refine all_cons (Tryd.sizeOf115) ?_
  refine all_cons (Tryd.sizeOf116) ?_
  refine all_cons (Tryd.sizeOf117) ?_
  refine all_cons (Tryd.sizeOf118) ?_
  refine all_cons (Tryd.sizeOf119) ?_
  refine all_cons (Tryd.sizeOf120) ?_
  refine all_cons (Tryd.sizeOf121) ?_
  refine all_cons (Tryd.sizeOf122) ?_
  refine all_cons (Tryd.sizeOf123) ?_
  refine all_cons (Tryd.sizeOf124) ?_
  refine all_cons (Tryd.sizeOf125) ?_
  refine all_cons (Tryd.sizeOf126) ?_
  refine all_cons (Tryd.sizeOf127) ?_
  refine all_cons (Tryd.sizeOf128) ?_
  refine all_cons (Tryd.sizeOf129) ?_
  refine all_cons (Tryd.sizeOf130) ?_
  refine all_cons (Tryd.sizeOf131) ?_
  refine all_cons (Tryd.sizeOf132) ?_
  refine all_cons (Tryd.sizeOf133) ?_
  refine all_cons (Tryd.sizeOf134) ?_
  refine all_cons (Tryd.sizeOf135) ?_
  refine all_cons (Tryd.sizeOf136) ?_
  refine all_cons (Tryd.sizeOf137) ?_
  refine all_cons (Tryd.sizeOf138) ?_
  refine all_cons (Tryd.sizeOf139) ?_
  refine all_cons (Tryd.sizeOf140) ?_
  refine all_cons (Tryd.sizeOf141) ?_
  refine all_cons (Tryd.sizeOf142) ?_
  refine all_cons (Tryd.sizeOf143) ?_
  refine all_cons (Tryd.sizeOf144) ?_
  refine all_cons (Tryd.sizeOf145) ?_
  refine all_cons (Tryd.sizeOf146) ?_
  refine all_cons (Tryd.sizeOf147) ?_
  refine all_cons (Tryd.sizeOf148) ?_
  refine all_cons (Tryd.sizeOf149) ?_
  refine all_cons (Tryd.sizeOf150) ?_
  refine all_cons (Tryd.sizeOf151) ?_
  refine all_cons (Tryd.sizeOf152) ?_
  refine all_cons (Tryd.sizeOf153) ?_
  exact fun _ h => nomatch h

theorem tabB_ok : ∀ x ∈ tabB, ∀ w, ∃ i, (typeInfo x.1).run Tryd.prog w = .ok i w ∧ i.bytes = x.2 := by
  refine all_cons (fun w => ⟨_, Tryd.typeInfo0 w, rfl⟩) ?_
  refine all_cons (fun w => ⟨_, Tryd.typeInfo1 w, rfl⟩) ?_
  refine all_cons (fun w => ⟨_, Tryd.typeInfo2 w, rfl⟩) ?_
  refine all_cons (fun w => ⟨_, Tryd.typeInfo3 w, rfl⟩) ?_
  refine all_cons (fun w => ⟨_, Tryd.typeInfo4 w, rfl⟩) ?_
  refine all_cons (fun w => ⟨_, Tryd.typeInfo5 w, rfl⟩) ?_
  refine all_cons (fun w => ⟨_, Tryd.typeInfo6 w, rfl⟩) ?_
  refine all_cons (fun w => ⟨_, Tryd.typeInfo7 w, rfl⟩) ?_
  refine all_cons (fun w => ⟨_, Tryd.typeInfo8 w, rfl⟩) ?_
  refine all_cons (fun w => ⟨_, Tryd.typeInfo9 w, rfl⟩) ?_
  refine all_cons (fun w => ⟨_, Tryd.typeInfo10 w, rfl⟩) ?_
  refine all_cons (fun w => ⟨_, Tryd.typeInfo11 w, rfl⟩) ?_
  refine all_cons (fun w => ⟨_, Tryd.typeInfo12 w, rfl⟩) ?_
  refine all_cons (fun w => ⟨_, Tryd.typeInfo13 w, rfl⟩) ?_
  refine all_cons (fun w => ⟨_, Tryd.typeInfo14 w, rfl⟩) ?_
  refine all_cons (fun w => ⟨_, Tryd.typeInfo15 w, rfl⟩) ?_
  refine all_cons (fun w => ⟨_, Tryd.typeInfo16 w, rfl⟩) ?_
  refine all_cons (fun w => ⟨_, Tryd.typeInfo17 w, rfl⟩) ?_
  refine all_cons (fun w => ⟨_, Tryd.typeInfo18 w, rfl⟩) ?_
  refine all_cons (fun w => ⟨_, Tryd.typeInfo19 w, rfl⟩) ?_
  refine all_cons (fun w => ⟨_, Tryd.typeInfo20 w, rfl⟩) ?_
  refine all_cons (fun w => ⟨_, Tryd.typeInfo21 w, rfl⟩) ?_
  refine all_cons (fun w => ⟨_, Tryd.typeInfo22 w, rfl⟩) ?_
  refine all_cons (fun w => ⟨_, Tryd.typeInfo23 w, rfl⟩) ?_
  refine all_cons (fun w => ⟨_, Tryd.typeInfo24 w, rfl⟩) ?_
  refine all_cons (fun w => ⟨_, Tryd.typeInfo25 w, rfl⟩) ?_
  refine all_cons (fun w => ⟨_, Tryd.typeInfo26 w, rfl⟩) ?_
  refine all_cons (fun w => ⟨_, Tryd.typeInfo27 w, rfl⟩) ?_
  refine all_cons (fun w => ⟨_, Tryd.typeInfo28 w, rfl⟩) ?_
  refine all_cons (fun w => ⟨_, Tryd.typeInfo29 w, rfl⟩) ?_
  refine all_cons (fun w => ⟨_, Tryd.typeInfo30 w, rfl⟩) ?_
  refine all_cons (fun w => ⟨_, Tryd.typeInfo31 w, rfl⟩) ?_
  refine all_cons (fun w => ⟨_, Tryd.typeInfo32 w, rfl⟩) ?_
  refine all_cons (fun w => ⟨_, Tryd.typeInfo33 w, rfl⟩) ?_
  refine all_cons (fun w => ⟨_, Tryd.typeInfo34 w, rfl⟩) ?_
  refine all_cons (fun w => ⟨_, Tryd.typeInfo35 w, rfl⟩) ?_
  refine all_cons (fun w => ⟨_, Tryd.typeInfo36 w, rfl⟩) ?_
  refine all_cons (fun w => ⟨_, Tryd.typeInfo37 w, rfl⟩) ?_
  refine all_cons (fun w => ⟨_, Tryd.typeInfo38 w, rfl⟩) ?_
  refine all_cons (fun w => ⟨_, Tryd.typeInfo39 w, rfl⟩) ?_
  refine all_cons (fun w => ⟨_, Tryd.typeInfo40 w, rfl⟩) ?_
  refine all_cons (fun w => ⟨_, Tryd.typeInfo41 w, rfl⟩) ?_
  refine all_cons (fun w => ⟨_, Tryd.typeInfo42 w, rfl⟩) ?_
  refine all_cons (fun w => ⟨_, Tryd.typeInfo43 w, rfl⟩) ?_
  refine all_cons (fun w => ⟨_, Tryd.typeInfo44 w, rfl⟩) ?_
  refine all_cons (fun w => ⟨_, Tryd.typeInfo45 w, rfl⟩) ?_
  refine all_cons (fun w => ⟨_, Tryd.typeInfo46 w, rfl⟩) ?_
  refine all_cons (fun w => ⟨_, Tryd.typeInfo47 w, rfl⟩) ?_
  refine all_cons (fun w => ⟨_, Tryd.typeInfo48 w, rfl⟩) ?_
  refine all_cons (fun w => ⟨_, Tryd.typeInfo49 w, rfl⟩) ?_
  refine all_cons (fun w => ⟨_, Tryd.typeInfo50 w, rfl⟩) ?_
  refine all_cons (fun w => ⟨_, Tryd.typeInfo51 w, rfl⟩) ?_
  refine all_cons (fun w => ⟨_, Tryd.typeInfo52 w, rfl⟩) ?_
  refine all_cons (fun w => ⟨_, Tryd.typeInfo53 w, rfl⟩) ?_
  refine all_cons (fun w => ⟨_, Tryd.typeInfo54 w, rfl⟩) ?_
  refine all_cons (fun w => ⟨_, Tryd.typeInfo55 w, rfl⟩) ?_
  refine all_cons (fun w => ⟨_, Tryd.typeInfo56 w, rfl⟩) ?_
  refine all_cons (fun w => ⟨_, Tryd.typeInfo57 w, rfl⟩) ?_
  refine all_cons (fun w => ⟨_, Tryd.typeInfo58 w, rfl⟩) ?_
  refine all_cons (fun w => ⟨_, Tryd.typeInfo59 w, rfl⟩) ?_
  refine all_cons (fun w => ⟨_, Tryd.typeInfo60 w, rfl⟩) ?_
  refine all_cons (fun w => ⟨_, Tryd.typeInfo61 w, rfl⟩) ?_
  refine all_cons (fun w => ⟨_, Tryd.typeInfo62 w, rfl⟩) ?_
  refine all_cons (fun w => ⟨_, Tryd.typeInfo63 w, rfl⟩) ?_
  refine all_cons (fun w => ⟨_, Tryd.typeInfo64 w, rfl⟩) ?_
  refine all_cons (fun w => ⟨_, Tryd.typeInfo65 w, rfl⟩) ?_
  refine all_cons (fun w => ⟨_, Tryd.typeInfo66 w, rfl⟩) ?_
  refine all_cons (fun w => ⟨_, Tryd.typeInfo67 w, rfl⟩) ?_
  refine all_cons (fun w => ⟨_, Tryd.typeInfo68 w, rfl⟩) ?_
  refine all_cons (fun w => ⟨_, Tryd.typeInfo69 w, rfl⟩) ?_
  refine all_cons (fun w => ⟨_, Tryd.typeInfo70 w, rfl⟩) ?_
  refine all_cons (fun w => ⟨_, Tryd.typeInfo71 w, rfl⟩) ?_
  refine all_cons (fun w => ⟨_, Tryd.typeInfo72 w, rfl⟩) ?_
  refine all_cons (fun w => ⟨_, Tryd.typeInfo73 w, rfl⟩) ?_
  refine all_cons (fun w => ⟨_, Tryd.typeInfo74 w, rfl⟩) ?_
  refine all_cons (fun w => ⟨_, Tryd.typeInfo75 w, rfl⟩) ?_
  refine all_cons (fun w => ⟨_, Tryd.typeInfo76 w, rfl⟩) ?_
  refine all_cons (fun w => ⟨_, Tryd.typeInfo77 w, rfl⟩) ?_
  refine all_cons (fun w => ⟨_, Tryd.typeInfo78 w, rfl⟩) ?_
  refine all_cons (fun w => ⟨_, Tryd.typeInfo79 w, rfl⟩) ?_
  refine all_cons (fun w => ⟨_, Tryd.typeInfo80 w, rfl⟩) ?_
  refine all_cons (fun w => ⟨_, Tryd.typeInfo81 w, rfl⟩) ?_
  refine all_cons (fun w => ⟨_, Tryd.typeInfo82 w, rfl⟩) ?_
  refine all_cons (fun w => ⟨_, Tryd.typeInfo83 w, rfl⟩) ?_
  refine all_cons (fun w => ⟨_, Tryd.typeInfo84 w, rfl⟩) ?_
  refine all_cons (fun w => ⟨_, Tryd.typeInfo85 w, rfl⟩) ?_
  refine all_cons (fun w => ⟨_, Tryd.typeInfo86 w, rfl⟩) ?_
  refine all_cons (fun w => ⟨_, Tryd.typeInfo87 w, rfl⟩) ?_
  refine all_cons (fun w => ⟨_, Tryd.typeInfo88 w, rfl⟩) ?_
  refine all_cons (fun w => ⟨_, Tryd.typeInfo89 w, rfl⟩) ?_
  refine all_cons (fun w => ⟨_, Tryd.typeInfo90 w, rfl⟩) ?_
  refine all_cons (fun w => ⟨_, Tryd.typeInfo91 w, rfl⟩) ?_
  refine all_cons (fun w => ⟨_, Tryd.typeInfo92 w, rfl⟩) ?_
  refine all_cons (fun w => ⟨_, Tryd.typeInfo93 w, rfl⟩) ?_
  refine all_cons (fun w => ⟨_, Tryd.typeInfo94 w, rfl⟩) ?_
  refine all_cons (fun w => ⟨_, Tryd.typeInfo95 w, rfl⟩) ?_
  refine all_cons (fun w => ⟨_, Tryd.typeInfo96 w, rfl⟩) ?_
  refine all_cons (fun w => ⟨_, Tryd.typeInfo97 w, rfl⟩) ?_
  refine all_cons (fun w => ⟨_, Tryd.typeInfo98 w, rfl⟩) ?_
  refine all_cons (fun w => ⟨_, Tryd.typeInfo99 w, rfl⟩) ?_
  refine all_cons (fun w => ⟨_, Tryd.typeInfo100 w, rfl⟩) ?_
  refine all_cons (fun w => ⟨_, Tryd.typeInfo101 w, rfl⟩) ?_
  refine all_cons (fun w => ⟨_, Tryd.typeInfo102 w, rfl⟩) ?_
  refine all_cons (fun w => ⟨_, Tryd.typeInfo103 w, rfl⟩) ?_
  refine all_cons (fun w => ⟨_, Tryd.typeInfo104 w, rfl⟩) ?_
  refine all_cons (fun w => ⟨_, Tryd.typeInfo105 w, rfl⟩) ?_
  refine all_cons (fun w => ⟨_, Tryd.typeInfo106 w, rfl⟩) ?_
  refine all_cons (fun w => ⟨_, Tryd.typeInfo107 w, rfl⟩) ?_
  refine all_cons (fun w => ⟨_, Tryd.typeInfo108 w, rfl⟩) ?_
  refine all_cons (fun w => ⟨_, Tryd.typeInfo109 w, rfl⟩) ?_
  refine all_cons (fun w => ⟨_, Tryd.typeInfo110 w, rfl⟩) ?_
  refine all_cons (fun w => ⟨_, Tryd.typeInfo111 w, rfl⟩) ?_
  refine all_cons (fun w => ⟨_, Tryd.typeInfo112 w, rfl⟩) ?_
  refine all_cons (fun w => ⟨_, Tryd.typeInfo113 w, rfl⟩) ?_
  refine all_cons (fun w => ⟨_, Tryd.typeInfo114 w, rfl⟩) ?_
  refine all_cons (fun w => ⟨_, Tryd.typeInfo115 w, rfl⟩) ?_
  refine all_cons (fun w => ⟨_, Tryd.typeInfo116 w, rfl⟩) ?_
  refine all_cons (fun w => ⟨_, Tryd.typeInfo117 w, rfl⟩) ?_
  refine all_cons (fun w => ⟨_, Tryd.typeInfo118 w, rfl⟩) ?_
  refine all_cons (fun w => ⟨_, Tryd.typeInfo119 w, rfl⟩) ?_
  refine all_cons (fun w => ⟨_, Tryd.typeInfo120 w, rfl⟩) ?_
  refine all_cons (fun w => ⟨_, Tryd.typeInfo121 w, rfl⟩) ?_
  refine all_cons (fun w => ⟨_, Tryd.typeInfo122 w, rfl⟩) ?_
  refine all_cons (fun w => ⟨_, Tryd.typeInfo123 w, rfl⟩) ?_
  refine all_cons (fun w => ⟨_, Tryd.typeInfo124 w, rfl⟩) ?_
  refine all_cons (fun w => ⟨_, Tryd.typeInfo125 w, rfl⟩) ?_
  refine all_cons (fun w => ⟨_, Tryd.typeInfo126 w, rfl⟩) ?_
  refine all_cons (fun w => ⟨_, Tryd.typeInfo127 w, rfl⟩) ?_
  refine all_cons (fun w => ⟨_, Tryd.typeInfo128 w, rfl⟩) ?_
  refine all_cons (fun w => ⟨_, Tryd.typeInfo129 w, rfl⟩) ?_
  refine all_cons (fun w => ⟨_, Tryd.typeInfo130 w, rfl⟩) ?_
  refine all_cons (fun w => ⟨_, Tryd.typeInfo131 w, rfl⟩) ?_
  refine all_cons (fun w => ⟨_, Tryd.typeInfo132 w, rfl⟩) ?_
  refine all_cons (fun w => ⟨_, Tryd.typeInfo133 w, rfl⟩) ?_
  refine all_cons (fun w => ⟨_, Tryd.typeInfo134 w, rfl⟩) ?_
  refine all_cons (fun w => ⟨_, Tryd.typeInfo135 w, rfl⟩) ?_
  refine all_cons (fun w => ⟨_, Tryd.typeInfo136 w, rfl⟩) ?_
  refine all_cons (fun w => ⟨_, Tryd.typeInfo137 w, rfl⟩) ?_
  refine all_cons (fun w => ⟨_, Tryd.typeInfo138 w, rfl⟩) ?_
  refine all_cons (fun w => ⟨_, Tryd.typeInfo139 w, rfl⟩) ?_
  refine all_cons (fun w => ⟨_, Tryd.typeInfo140 w, rfl⟩) ?_
  refine all_cons (fun w => ⟨_, Tryd.typeInfo141 w, rfl⟩) ?_
  refine all_cons (fun w => ⟨_, Tryd.typeInfo142 w, rfl⟩) ?_
  refine all_cons (fun w => ⟨_, Tryd.typeInfo143 w, rfl⟩) ?_
  refine all_cons (fun w => ⟨_, Tryd.typeInfo144 w, rfl⟩) ?_
  refine all_cons (fun w => ⟨_, Tryd.typeInfo145 w, rfl⟩) ?_
  refine all_cons (fun w => ⟨_, Tryd.typeInfo146 w, rfl⟩) ?_
  refine all_cons (fun w => ⟨_, Tryd.typeInfo147 w, rfl⟩) ?_
  refine all_cons (fun w => ⟨_, Tryd.typeInfo148 w, rfl⟩) ?_
  refine all_cons (fun w => ⟨_, Tryd.typeInfo149 w, rfl⟩) ?_
  refine all_cons (fun w => ⟨_, Tryd.typeInfo150 w, rfl⟩) ?_
  refine all_cons (fun w => ⟨_, Tryd.typeInfo151 w, rfl⟩) ?_
  refine all_cons (fun w => ⟨_, Tryd.typeInfo152 w, rfl⟩) ?_
  refine all_cons (fun w => ⟨_, Tryd.typeInfo153 w, rfl⟩) ?_
  exact fun _ h => nomatch h

theorem tabZ_ok : ∀ x ∈ tabZ, ∀ w, (zeroValue x.1).run Tryd.prog w = .ok x.2 w := by
  refine all_cons (Tryd.zeroValue0) ?_
  refine all_cons (Tryd.zeroValue1) ?_
  refine all_cons (Tryd.zeroValue2) ?_
  refine all_cons (Tryd.zeroValue3) ?_
  refine all_cons (Tryd.zeroValue4) ?_
  refine all_cons (Tryd.zeroValue5) ?_
  refine all_cons (Tryd.zeroValue6) ?_
  refine all_cons (Tryd.zeroValue7) ?_
  refine all_cons (Tryd.zeroValue8) ?_
  refine all_cons (Tryd.zeroValue9) ?_
  refine all_cons (Tryd.zeroValue10) ?_
  refine all_cons (Tryd.zeroValue11) ?_
  refine all_cons (Tryd.zeroValue12) ?_
  refine all_cons (Tryd.zeroValue13) ?_
  refine all_cons (Tryd.zeroValue14) ?_
  refine all_cons (Tryd.zeroValue15) ?_
  refine all_cons (Tryd.zeroValue16) ?_
  refine all_cons (Tryd.zeroValue17) ?_
  refine all_cons (Tryd.zeroValue18) ?_
  refine all_cons (Tryd.zeroValue19) ?_
  refine all_cons (Tryd.zeroValue20) ?_
  refine all_cons (Tryd.zeroValue21) ?_
  refine all_cons (Tryd.zeroValue22) ?_
  refine all_cons (Tryd.zeroValue23) ?_
  refine all_cons (Tryd.zeroValue24) ?_
  refine all_cons (Tryd.zeroValue25) ?_
  refine all_cons (Tryd.zeroValue26) ?_
  refine all_cons (Tryd.zeroValue27) ?_
  refine all_cons (Tryd.zeroValue28) ?_
  refine all_cons (Tryd.zeroValue29) ?_
  refine all_cons (Tryd.zeroValue30) ?_
  refine all_cons (Tryd.zeroValue31) ?_
  refine all_cons (Tryd.zeroValue32) ?_
  refine all_cons (Tryd.zeroValue33) ?_
  refine all_cons (Tryd.zeroValue34) ?_
  refine all_cons (Tryd.zeroValue35) ?_
  refine all_cons (Tryd.zeroValue36) ?_
  refine all_cons (Tryd.zeroValue37) ?_
  refine all_cons (Tryd.zeroValue38) ?_
  refine all_cons (Tryd.zeroValue39) ?_
  refine all_cons (Tryd.zeroValue40) ?_
  refine all_cons (Tryd.zeroValue41) ?_
  refine all_cons (Tryd.zeroValue42) ?_
  refine all_cons (Tryd.zeroValue43) ?_
  refine all_cons (Tryd.zeroValue44) ?_
  refine all_cons (Tryd.zeroValue45) ?_
  refine all_cons (Tryd.zeroValue46) ?_
  refine all_cons (Tryd.zeroValue47) ?_
  refine all_cons (Tryd.zeroValue48) ?_
  refine all_cons (Tryd.zeroValue49) ?_
  refine all_cons (Tryd.zeroValue50) ?_
  refine all_cons (Tryd.zeroValue51) ?_
  refine all_cons (Tryd.zeroValue52) ?_
  refine all_cons (Tryd.zeroValue53) ?_
  refine all_cons (Tryd.zeroValue54) ?_
  refine all_cons (Tryd.zeroValue55) ?_
  refine all_cons (Tryd.zeroValue56) ?_
  refine all_cons (Tryd.zeroValue57) ?_
  refine all_cons (Tryd.zeroValue58) ?_
  refine all_cons (Tryd.zeroValue59) ?_
  refine all_cons (Tryd.zeroValue60) ?_
  refine all_cons (Tryd.zeroValue61) ?_
  refine all_cons (Tryd.zeroValue62) ?_
  refine all_cons (Tryd.zeroValue63) ?_
  refine all_cons (Tryd.zeroValue64) ?_
  refine all_cons (Tryd.zeroValue65) ?_
  refine all_cons (Tryd.zeroValue66) ?_
  refine all_cons (Tryd.zeroValue67) ?_
  refine all_cons (Tryd.zeroValue68) ?_
  refine all_cons (Tryd.zeroValue69) ?_
  refine all_cons (Tryd.zeroValue70) ?_
  refine all_cons (Tryd.zeroValue71) ?_
  refine all_cons (Tryd.zeroValue72) ?_
  refine all_cons (Tryd.zeroValue73) ?_
  refine all_cons (Tryd.zeroValue74) ?_
  refine all_cons (Tryd.zeroValue75) ?_
  refine all_cons (Tryd.zeroValue76) ?_
  refine all_cons (Tryd.zeroValue77) ?_
  refine all_cons (Tryd.zeroValue78) ?_
  refine all_cons (Tryd.zeroValue79) ?_
  refine all_cons (Tryd.zeroValue80) ?_
  refine all_cons (Tryd.zeroValue81) ?_
  refine all_cons (Tryd.zeroValue82) ?_
  refine all_cons (Tryd.zeroValue83) ?_
  refine all_cons (Tryd.zeroValue84) ?_
  refine all_cons (Tryd.zeroValue85) ?_
  refine all_cons (Tryd.zeroValue86) ?_
  refine all_cons (Tryd.zeroValue87) ?_
  refine all_cons (Tryd.zeroValue88) ?_
  refine all_cons (Tryd.zeroValue89) ?_
  refine all_cons (Tryd.zeroValue90) ?_
  refine all_cons (Tryd.zeroValue91) ?_
  refine all_cons (Tryd.zeroValue92) ?_
  refine all_cons (Tryd.zeroValue93) ?_
  refine all_cons (Tryd.zeroValue94) ?_
  refine all_cons (Tryd.zeroValue95) ?_
  refine all_cons (Tryd.zeroValue96) ?_
  refine all_cons (Tryd.zeroValue97) ?_
  refine all_cons (Tryd.zeroValue98) ?_
  refine all_cons (Tryd.zeroValue99) ?_
  refine all_cons (Tryd.zeroValue100) ?_
  refine all_cons (Tryd.zeroValue101) ?_
  refine all_cons (Tryd.zeroValue102) ?_
  refine all_cons (Tryd.zeroValue103) ?_
  refine all_cons (Tryd.zeroValue104) ?_
  refine all_cons (Tryd.zeroValue105) ?_
  refine all_cons (Tryd.zeroValue106) ?_
  refine all_cons (Tryd.zeroValue107) ?_
  refine all_cons (Tryd.zeroValue108) ?_
  refine all_cons (Tryd.zeroValue109) ?_
  refine all_cons (Tryd.zeroValue110) ?_
  refine all_cons (Tryd.zeroValue111) ?_
  refine all_cons (Tryd.zeroValue112) ?_
  refine all_cons (Tryd.zeroValue113) ?_
  refine all_cons (Tryd.zeroValue114) ?_
  refine all_cons (Tryd.zeroValue115) ?_
  refine all_cons (Tryd.zeroValue116) ?_
  refine all_cons (Tryd.zeroValue117) ?_
  refine all_cons (Tryd.zeroValue118) ?_
  refine all_cons (Tryd.zeroValue119) ?_
  refine all_cons (Tryd.zeroValue120) ?_
  refine all_cons (Tryd.zeroValue121) ?_
  refine all_cons (Tryd.zeroValue122) ?_
  refine all_cons (Tryd.zeroValue123) ?_
  refine all_cons (Tryd.zeroValue124) ?_
  refine all_cons (Tryd.zeroValue125) ?_
  refine all_cons (Tryd.zeroValue126) ?_
  refine all_cons (Tryd.zeroValue127) ?_
  refine all_cons (Tryd.zeroValue128) ?_
  refine all_cons (Tryd.zeroValue129) ?_
  refine all_cons (Tryd.zeroValue130) ?_
  refine all_cons (Tryd.zeroValue131) ?_
  refine all_cons (Tryd.zeroValue132) ?_
  refine all_cons (Tryd.zeroValue133) ?_
  refine all_cons (Tryd.zeroValue134) ?_
  refine all_cons (Tryd.zeroValue135) ?_
  refine all_cons (Tryd.zeroValue137) ?_
  refine all_cons (Tryd.zeroValue138) ?_
  refine all_cons (Tryd.zeroValue139) ?_
  refine all_cons (Tryd.zeroValue140) ?_
  refine all_cons (Tryd.zeroValue141) ?_
  refine all_cons (Tryd.zeroValue142) ?_
  refine all_cons (Tryd.zeroValue143) ?_
  refine all_cons (Tryd.zeroValue144) ?_
  refine all_cons (Tryd.zeroValue145) ?_
  refine all_cons (Tryd.zeroValue146) ?_
  refine all_cons (Tryd.zeroValue147) ?_
  refine all_cons (Tryd.zeroValue148) ?_
  refine all_cons (Tryd.zeroValue149) ?_
  refine all_cons (Tryd.zeroValue150) ?_
  refine all_cons (Tryd.zeroValue151) ?_
  refine all_cons (Tryd.zeroValue152) ?_
  refine all_cons (Tryd.zeroValue153) ?_
  exact fun _ h => nomatch h

theorem tok : TabOk Tryd.prog tab := ⟨tabD_ok, tabS_ok, tabB_ok, tabZ_ok⟩

end Go.Proofs.YtkgmgjiomniijaaDoor
