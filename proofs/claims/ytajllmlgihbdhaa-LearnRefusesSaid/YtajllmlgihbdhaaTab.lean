/- What is known of the types of this seat: written by a program, off the seat's own facts. -/
import Derived.Test.YtajllmlgihbdhaaProg
import Derived.Test.YtajllmlgihbdhaaVc
namespace Go.Proofs.Ytajllmlgihbdhaa
open Go Go.Vc

theorem all_cons {α : Type} {p : α → Prop} {x : α} {l : List α} (h : p x) (r : ∀ y ∈ l, p y) : ∀ y ∈ x :: l, p y := fun y hy => by
  cases hy with
  | head => exact h
  | tail _ hy => exact r y hy

def tabD : List (Nat × TypeDesc) := [(0, Go.TypeDesc.tuple #[]), (1, Go.TypeDesc.func #[] #[] false), (2, Go.TypeDesc.int Go.IntKind.i64), (3, Go.TypeDesc.int Go.IntKind.i64), (4, Go.TypeDesc.bool), (5, Go.TypeDesc.int Go.IntKind.u8), (6, Go.TypeDesc.int Go.IntKind.u8), (7, Go.TypeDesc.struct #[{ name := "x", type := 2, offset := 0, embedded := false, tag := "", pkgPath := "runtime", byteOffset := 0 }, { name := "y", type := 3, offset := 1, embedded := false, tag := "", pkgPath := "runtime", byteOffset := 8 }, { name := "signed", type := 4, offset := 2, embedded := false, tag := "", pkgPath := "runtime", byteOffset := 16 }, { name := "code", type := 6, offset := 3, embedded := false, tag := "", pkgPath := "runtime", byteOffset := 17 }]), (8, Go.TypeDesc.struct #[{ name := "x", type := 2, offset := 0, embedded := false, tag := "", pkgPath := "runtime", byteOffset := 0 }, { name := "y", type := 3, offset := 1, embedded := false, tag := "", pkgPath := "runtime", byteOffset := 8 }, { name := "signed", type := 4, offset := 2, embedded := false, tag := "", pkgPath := "runtime", byteOffset := 16 }, { name := "code", type := 6, offset := 3, embedded := false, tag := "", pkgPath := "runtime", byteOffset := 17 }]), (9, Go.TypeDesc.string), (10, Go.TypeDesc.string), (11, Go.TypeDesc.string), (12, Go.TypeDesc.int Go.IntKind.u64), (13, Go.TypeDesc.struct #[{ name := "msg", type := 9, offset := 0, embedded := false, tag := "", pkgPath := "runtime", byteOffset := 0 }, { name := "addr", type := 12, offset := 1, embedded := false, tag := "", pkgPath := "runtime", byteOffset := 16 }]), (14, Go.TypeDesc.struct #[{ name := "msg", type := 9, offset := 0, embedded := false, tag := "", pkgPath := "runtime", byteOffset := 0 }, { name := "addr", type := 12, offset := 1, embedded := false, tag := "", pkgPath := "runtime", byteOffset := 16 }]), (15, Go.TypeDesc.pointer 145), (16, Go.TypeDesc.pointer 148), (17, Go.TypeDesc.pointer 156), (18, Go.TypeDesc.struct #[{ name := "typ", type := 17, offset := 0, embedded := false, tag := "", pkgPath := "internal/runtime/maps", byteOffset := 0 }]), (19, Go.TypeDesc.struct #[{ name := "typ", type := 17, offset := 0, embedded := false, tag := "", pkgPath := "internal/runtime/maps", byteOffset := 0 }]), (20, Go.TypeDesc.interface #[]), (21, Go.TypeDesc.int Go.IntKind.i32), (22, Go.TypeDesc.pointer 51), (23, Go.TypeDesc.func #[3] #[22] false), (24, Go.TypeDesc.int Go.IntKind.i64), (25, Go.TypeDesc.tuple #[3, 24]), (26, Go.TypeDesc.func #[28] #[3, 24] true), (27, Go.TypeDesc.int Go.IntKind.i32), (28, Go.TypeDesc.slice 27), (29, Go.TypeDesc.tuple #[28, 3, 24]), (30, Go.TypeDesc.func #[22, 3] #[28, 3, 24] false), (31, Go.TypeDesc.func #[] #[4] false), (32, Go.TypeDesc.slice 28), (33, Go.TypeDesc.struct #[{ name := "Vars", type := 3, offset := 0, embedded := false, tag := "", pkgPath := "", byteOffset := 0 }, { name := "Clauses", type := 32, offset := 1, embedded := false, tag := "", pkgPath := "", byteOffset := 8 }]), (34, Go.TypeDesc.struct #[{ name := "Vars", type := 3, offset := 0, embedded := false, tag := "", pkgPath := "", byteOffset := 0 }, { name := "Clauses", type := 32, offset := 1, embedded := false, tag := "", pkgPath := "", byteOffset := 8 }]), (35, Go.TypeDesc.pointer 38), (36, Go.TypeDesc.func #[34] #[35] false), (37, Go.TypeDesc.struct #[{ name := "e", type := 22, offset := 0, embedded := false, tag := "", pkgPath := "lariat/lariatlaw06", byteOffset := 0 }, { name := "all", type := 32, offset := 1, embedded := false, tag := "", pkgPath := "lariat/lariatlaw06", byteOffset := 8 }]), (38, Go.TypeDesc.struct #[{ name := "e", type := 22, offset := 0, embedded := false, tag := "", pkgPath := "lariat/lariatlaw06", byteOffset := 0 }, { name := "all", type := 32, offset := 1, embedded := false, tag := "", pkgPath := "lariat/lariatlaw06", byteOffset := 8 }]), (39, Go.TypeDesc.func #[] #[3] false), (40, Go.TypeDesc.func #[27] #[24] false), (41, Go.TypeDesc.func #[] #[28] false), (42, Go.TypeDesc.tuple #[28, 4]), (43, Go.TypeDesc.func #[3] #[28, 4] false), (44, Go.TypeDesc.func #[27] #[3] false), (45, Go.TypeDesc.pointer 90), (46, Go.TypeDesc.slice 73), (47, Go.TypeDesc.slice 48), (48, Go.TypeDesc.slice 3), (49, Go.TypeDesc.slice 101), (50, Go.TypeDesc.struct #[{ name := "Trail", type := 45, offset := 0, embedded := true, tag := "", pkgPath := "", byteOffset := 0 }, { name := "clauses", type := 46, offset := 1, embedded := false, tag := "", pkgPath := "lariat/watch", byteOffset := 8 }, { name := "watches", type := 47, offset := 2, embedded := false, tag := "", pkgPath := "lariat/watch", byteOffset := 32 }, { name := "fresh", type := 48, offset := 3, embedded := false, tag := "", pkgPath := "lariat/watch", byteOffset := 56 }, { name := "youngs", type := 49, offset := 4, embedded := false, tag := "", pkgPath := "lariat/watch", byteOffset := 80 }, { name := "head", type := 3, offset := 5, embedded := false, tag := "", pkgPath := "lariat/watch", byteOffset := 104 }]), (51, Go.TypeDesc.struct #[{ name := "Trail", type := 45, offset := 0, embedded := true, tag := "", pkgPath := "", byteOffset := 0 }, { name := "clauses", type := 46, offset := 1, embedded := false, tag := "", pkgPath := "lariat/watch", byteOffset := 8 }, { name := "watches", type := 47, offset := 2, embedded := false, tag := "", pkgPath := "lariat/watch", byteOffset := 32 }, { name := "fresh", type := 48, offset := 3, embedded := false, tag := "", pkgPath := "lariat/watch", byteOffset := 56 }, { name := "youngs", type := 49, offset := 4, embedded := false, tag := "", pkgPath := "lariat/watch", byteOffset := 80 }, { name := "head", type := 3, offset := 5, embedded := false, tag := "", pkgPath := "lariat/watch", byteOffset := 104 }]), (52, Go.TypeDesc.func #[3] #[3] false), (53, Go.TypeDesc.array 40 4), (54, Go.TypeDesc.func #[22, 28] #[3] false), (55, Go.TypeDesc.func #[28, 28] #[4] false), (56, Go.TypeDesc.func #[3, 32, 28] #[4] false), (57, Go.TypeDesc.func #[34, 28, 3] #[4] false), (58, Go.TypeDesc.slice 3), (59, Go.TypeDesc.func #[58, 28] #[4] false), (60, Go.TypeDesc.func #[34, 28] #[4] false), (61, Go.TypeDesc.tuple #[28, 3, 4]), (62, Go.TypeDesc.func #[3] #[28, 3, 4] false), (63, Go.TypeDesc.func #[3] #[24] false), (64, Go.TypeDesc.tuple #[28, 4, 3]), (65, Go.TypeDesc.func #[28] #[28, 4, 3] false), (66, Go.TypeDesc.func #[3] #[45] false), (67, Go.TypeDesc.tuple #[28, 4, 24]), (68, Go.TypeDesc.func #[28] #[28, 4, 24] true), (69, Go.TypeDesc.func #[28, 70] #[4] false), (70, Go.TypeDesc.func #[27] #[4] false), (71, Go.TypeDesc.func #[28] #[] false), (72, Go.TypeDesc.struct #[{ name := "lits", type := 28, offset := 0, embedded := false, tag := "", pkgPath := "lariat/watch", byteOffset := 0 }, { name := "present", type := 4, offset := 1, embedded := false, tag := "", pkgPath := "lariat/watch", byteOffset := 24 }, { name := "idle", type := 4, offset := 2, embedded := false, tag := "", pkgPath := "lariat/watch", byteOffset := 25 }]), (73, Go.TypeDesc.struct #[{ name := "lits", type := 28, offset := 0, embedded := false, tag := "", pkgPath := "lariat/watch", byteOffset := 0 }, { name := "present", type := 4, offset := 1, embedded := false, tag := "", pkgPath := "lariat/watch", byteOffset := 24 }, { name := "idle", type := 4, offset := 2, embedded := false, tag := "", pkgPath := "lariat/watch", byteOffset := 25 }]), (74, Go.TypeDesc.func #[3] #[] false), (75, Go.TypeDesc.pointer 78), (76, Go.TypeDesc.map 3 3), (77, Go.TypeDesc.struct #[{ name := "e", type := 22, offset := 0, embedded := false, tag := "", pkgPath := "lariat/learn", byteOffset := 0 }, { name := "seen", type := 76, offset := 1, embedded := false, tag := "", pkgPath := "lariat/learn", byteOffset := 8 }, { name := "top", type := 3, offset := 2, embedded := false, tag := "", pkgPath := "lariat/learn", byteOffset := 16 }, { name := "count", type := 3, offset := 3, embedded := false, tag := "", pkgPath := "lariat/learn", byteOffset := 24 }, { name := "rest", type := 28, offset := 4, embedded := false, tag := "", pkgPath := "lariat/learn", byteOffset := 32 }]), (78, Go.TypeDesc.struct #[{ name := "e", type := 22, offset := 0, embedded := false, tag := "", pkgPath := "lariat/learn", byteOffset := 0 }, { name := "seen", type := 76, offset := 1, embedded := false, tag := "", pkgPath := "lariat/learn", byteOffset := 8 }, { name := "top", type := 3, offset := 2, embedded := false, tag := "", pkgPath := "lariat/learn", byteOffset := 16 }, { name := "count", type := 3, offset := 3, embedded := false, tag := "", pkgPath := "lariat/learn", byteOffset := 24 }, { name := "rest", type := 28, offset := 4, embedded := false, tag := "", pkgPath := "lariat/learn", byteOffset := 32 }]), (79, Go.TypeDesc.func #[28, 3] #[] false), (80, Go.TypeDesc.func #[] #[27] false), (81, Go.TypeDesc.func #[3] #[4] false), (82, Go.TypeDesc.func #[3] #[27] false), (83, Go.TypeDesc.pointer 86), (84, Go.TypeDesc.func #[27] #[83] false), (85, Go.TypeDesc.struct #[{ name := "value", type := 3, offset := 0, embedded := false, tag := "", pkgPath := "lariat/trail", byteOffset := 0 }, { name := "level", type := 3, offset := 1, embedded := false, tag := "", pkgPath := "lariat/trail", byteOffset := 8 }, { name := "reason", type := 3, offset := 2, embedded := false, tag := "", pkgPath := "lariat/trail", byteOffset := 16 }]), (86, Go.TypeDesc.struct #[{ name := "value", type := 3, offset := 0, embedded := false, tag := "", pkgPath := "lariat/trail", byteOffset := 0 }, { name := "level", type := 3, offset := 1, embedded := false, tag := "", pkgPath := "lariat/trail", byteOffset := 8 }, { name := "reason", type := 3, offset := 2, embedded := false, tag := "", pkgPath := "lariat/trail", byteOffset := 16 }]), (87, Go.TypeDesc.func #[3] #[86] false), (88, Go.TypeDesc.slice 86), (89, Go.TypeDesc.struct #[{ name := "marks", type := 88, offset := 0, embedded := false, tag := "", pkgPath := "lariat/trail", byteOffset := 0 }, { name := "list", type := 28, offset := 1, embedded := false, tag := "", pkgPath := "lariat/trail", byteOffset := 24 }, { name := "levels", type := 48, offset := 2, embedded := false, tag := "", pkgPath := "lariat/trail", byteOffset := 48 }]), (90, Go.TypeDesc.struct #[{ name := "marks", type := 88, offset := 0, embedded := false, tag := "", pkgPath := "lariat/trail", byteOffset := 0 }, { name := "list", type := 28, offset := 1, embedded := false, tag := "", pkgPath := "lariat/trail", byteOffset := 24 }, { name := "levels", type := 48, offset := 2, embedded := false, tag := "", pkgPath := "lariat/trail", byteOffset := 48 }]), (91, Go.TypeDesc.func #[58, 27] #[3] false), (92, Go.TypeDesc.func #[58, 27] #[58] false), (93, Go.TypeDesc.tuple #[58, 4]), (94, Go.TypeDesc.func #[58, 32] #[58, 4] false), (95, Go.TypeDesc.tuple #[3, 3]), (96, Go.TypeDesc.func #[22, 28] #[3, 3] false), (97, Go.TypeDesc.func #[28, 27] #[4] false), (98, Go.TypeDesc.tuple #[28, 24]), (99, Go.TypeDesc.func #[3] #[28, 24] false), (100, Go.TypeDesc.struct #[{ name := "id", type := 3, offset := 0, embedded := false, tag := "", pkgPath := "lariat/watch", byteOffset := 0 }, { name := "level", type := 3, offset := 1, embedded := false, tag := "", pkgPath := "lariat/watch", byteOffset := 8 }]), (101, Go.TypeDesc.struct #[{ name := "id", type := 3, offset := 0, embedded := false, tag := "", pkgPath := "lariat/watch", byteOffset := 0 }, { name := "level", type := 3, offset := 1, embedded := false, tag := "", pkgPath := "lariat/watch", byteOffset := 8 }]), (102, Go.TypeDesc.func #[28] #[4] false), (103, Go.TypeDesc.func #[27, 27] #[4] false), (104, Go.TypeDesc.func #[28] #[4] true), (105, Go.TypeDesc.func #[28] #[28] false), (106, Go.TypeDesc.func #[28, 107] #[] false), (107, Go.TypeDesc.func #[27, 27] #[3] false), (108, Go.TypeDesc.func #[28, 70] #[3] false), (109, Go.TypeDesc.tuple #[3, 4]), (110, Go.TypeDesc.func #[123] #[] false), (111, Go.TypeDesc.func #[123] #[] false), (112, Go.TypeDesc.func #[28] #[111] false), (113, Go.TypeDesc.func #[3, 3] #[3] false), (114, Go.TypeDesc.func #[28, 70] #[28] false), (115, Go.TypeDesc.pointer 73), (116, Go.TypeDesc.func #[27, 3] #[24] false), (117, Go.TypeDesc.func #[115, 3, 27] #[4] false), (118, Go.TypeDesc.tuple #[4, 3, 27]), (119, Go.TypeDesc.func #[58, 28] #[4, 3, 27] false), (120, Go.TypeDesc.func #[28, 3, 3, 3, 107] #[] false), (121, Go.TypeDesc.func #[122] #[3] false), (122, Go.TypeDesc.int Go.IntKind.u64), (123, Go.TypeDesc.func #[3, 27] #[4] false), (124, Go.TypeDesc.func #[28, 3, 3, 107] #[] false), (125, Go.TypeDesc.int Go.IntKind.i64), (126, Go.TypeDesc.tuple #[3, 125]), (127, Go.TypeDesc.func #[28, 3, 3, 107] #[3, 125] false), (128, Go.TypeDesc.func #[28, 3, 3, 107] #[4] false), (129, Go.TypeDesc.func #[28, 3, 3, 3, 107] #[3] false), (130, Go.TypeDesc.func #[28, 3, 3, 3, 107] #[3, 4] false), (131, Go.TypeDesc.func #[132] #[3] false), (132, Go.TypeDesc.int Go.IntKind.u32), (133, Go.TypeDesc.func #[134] #[3] false), (134, Go.TypeDesc.int Go.IntKind.u64), (135, Go.TypeDesc.int Go.IntKind.u64), (136, Go.TypeDesc.func #[3] #[122] false), (137, Go.TypeDesc.func #[] #[134] false), (138, Go.TypeDesc.func #[28, 3, 139, 107] #[3] false), (139, Go.TypeDesc.pointer 3), (140, Go.TypeDesc.func #[28, 3, 3, 3, 139, 107] #[3] false), (141, Go.TypeDesc.pointer 135), (142, Go.TypeDesc.func #[28, 3, 3, 139, 107] #[3, 3] false), (143, Go.TypeDesc.func #[] #[9] false), (144, Go.TypeDesc.struct #[{ name := "_interface", type := 17, offset := 0, embedded := false, tag := "", pkgPath := "runtime", byteOffset := 0 }, { name := "concrete", type := 17, offset := 1, embedded := false, tag := "", pkgPath := "runtime", byteOffset := 8 }, { name := "asserted", type := 17, offset := 2, embedded := false, tag := "", pkgPath := "runtime", byteOffset := 16 }, { name := "missingMethod", type := 9, offset := 3, embedded := false, tag := "", pkgPath := "runtime", byteOffset := 24 }]), (145, Go.TypeDesc.struct #[{ name := "_interface", type := 17, offset := 0, embedded := false, tag := "", pkgPath := "runtime", byteOffset := 0 }, { name := "concrete", type := 17, offset := 1, embedded := false, tag := "", pkgPath := "runtime", byteOffset := 8 }, { name := "asserted", type := 17, offset := 2, embedded := false, tag := "", pkgPath := "runtime", byteOffset := 16 }, { name := "missingMethod", type := 9, offset := 3, embedded := false, tag := "", pkgPath := "runtime", byteOffset := 24 }]), (146, Go.TypeDesc.array 0 16), (147, Go.TypeDesc.struct #[{ name := "_", type := 146, offset := 0, embedded := false, tag := "", pkgPath := "runtime", byteOffset := 0 }]), (148, Go.TypeDesc.struct #[{ name := "_", type := 146, offset := 0, embedded := false, tag := "", pkgPath := "runtime", byteOffset := 0 }]), (149, Go.TypeDesc.int Go.IntKind.u8), (150, Go.TypeDesc.int Go.IntKind.u8), (151, Go.TypeDesc.func #[157, 157] #[4] false), (152, Go.TypeDesc.pointer 5), (153, Go.TypeDesc.int Go.IntKind.i32), (154, Go.TypeDesc.int Go.IntKind.i32), (155, Go.TypeDesc.struct #[{ name := "Size_", type := 12, offset := 0, embedded := false, tag := "", pkgPath := "", byteOffset := 0 }, { name := "PtrBytes", type := 12, offset := 1, embedded := false, tag := "", pkgPath := "", byteOffset := 8 }, { name := "Hash", type := 132, offset := 2, embedded := false, tag := "", pkgPath := "", byteOffset := 16 }, { name := "TFlag", type := 149, offset := 3, embedded := false, tag := "", pkgPath := "", byteOffset := 20 }, { name := "Align_", type := 5, offset := 4, embedded := false, tag := "", pkgPath := "", byteOffset := 21 }, { name := "FieldAlign_", type := 5, offset := 5, embedded := false, tag := "", pkgPath := "", byteOffset := 22 }, { name := "Kind_", type := 150, offset := 6, embedded := false, tag := "", pkgPath := "", byteOffset := 23 }, { name := "Equal", type := 151, offset := 7, embedded := false, tag := "", pkgPath := "", byteOffset := 24 }, { name := "GCData", type := 152, offset := 8, embedded := false, tag := "", pkgPath := "", byteOffset := 32 }, { name := "Str", type := 153, offset := 9, embedded := false, tag := "", pkgPath := "", byteOffset := 40 }, { name := "PtrToThis", type := 154, offset := 10, embedded := false, tag := "", pkgPath := "", byteOffset := 44 }]), (156, Go.TypeDesc.struct #[{ name := "Size_", type := 12, offset := 0, embedded := false, tag := "", pkgPath := "", byteOffset := 0 }, { name := "PtrBytes", type := 12, offset := 1, embedded := false, tag := "", pkgPath := "", byteOffset := 8 }, { name := "Hash", type := 132, offset := 2, embedded := false, tag := "", pkgPath := "", byteOffset := 16 }, { name := "TFlag", type := 149, offset := 3, embedded := false, tag := "", pkgPath := "", byteOffset := 20 }, { name := "Align_", type := 5, offset := 4, embedded := false, tag := "", pkgPath := "", byteOffset := 21 }, { name := "FieldAlign_", type := 5, offset := 5, embedded := false, tag := "", pkgPath := "", byteOffset := 22 }, { name := "Kind_", type := 150, offset := 6, embedded := false, tag := "", pkgPath := "", byteOffset := 23 }, { name := "Equal", type := 151, offset := 7, embedded := false, tag := "", pkgPath := "", byteOffset := 24 }, { name := "GCData", type := 152, offset := 8, embedded := false, tag := "", pkgPath := "", byteOffset := 32 }, { name := "Str", type := 153, offset := 9, embedded := false, tag := "", pkgPath := "", byteOffset := 40 }, { name := "PtrToThis", type := 154, offset := 10, embedded := false, tag := "", pkgPath := "", byteOffset := 44 }]), (157, Go.TypeDesc.unsafePointer)]
def tabS : List (Nat × Nat) := [(0, 1), (1, 1), (2, 1), (3, 1), (4, 1), (5, 1), (6, 1), (7, 4), (8, 4), (9, 1), (10, 1), (11, 1), (12, 1), (13, 2), (14, 2), (15, 1), (16, 1), (17, 1), (18, 1), (19, 1), (20, 1), (21, 1), (22, 1), (23, 1), (24, 1), (25, 1), (26, 1), (27, 1), (28, 1), (29, 1), (30, 1), (31, 1), (32, 1), (33, 2), (34, 2), (35, 1), (36, 1), (37, 2), (38, 2), (39, 1), (40, 1), (41, 1), (42, 1), (43, 1), (44, 1), (45, 1), (46, 1), (47, 1), (48, 1), (49, 1), (50, 6), (51, 6), (52, 1), (53, 40), (54, 1), (55, 1), (56, 1), (57, 1), (58, 1), (59, 1), (60, 1), (61, 1), (62, 1), (63, 1), (64, 1), (65, 1), (66, 1), (67, 1), (68, 1), (69, 1), (70, 1), (71, 1), (72, 3), (73, 3), (74, 1), (75, 1), (76, 1), (77, 5), (78, 5), (79, 1), (80, 1), (81, 1), (82, 1), (83, 1), (84, 1), (85, 3), (86, 3), (87, 1), (88, 1), (89, 3), (90, 3), (91, 1), (92, 1), (93, 1), (94, 1), (95, 1), (96, 1), (97, 1), (98, 1), (99, 1), (100, 2), (101, 2), (102, 1), (103, 1), (104, 1), (105, 1), (106, 1), (107, 1), (108, 1), (109, 1), (110, 1), (111, 1), (112, 1), (113, 1), (114, 1), (115, 1), (116, 1), (117, 1), (118, 1), (119, 1), (120, 1), (121, 1), (122, 1), (123, 1), (124, 1), (125, 1), (126, 1), (127, 1), (128, 1), (129, 1), (130, 1), (131, 1), (132, 1), (133, 1), (134, 1), (135, 1), (136, 1), (137, 1), (138, 1), (139, 1), (140, 1), (141, 1), (142, 1), (143, 1), (144, 4), (145, 4), (146, 0), (147, 0), (148, 0), (149, 1), (150, 1), (151, 1), (152, 1), (153, 1), (154, 1), (155, 11), (156, 11), (157, 1)]
def tabB : List (Nat × Nat) := [(0, 0), (1, 8), (2, 8), (3, 8), (4, 1), (5, 1), (6, 1), (7, 24), (8, 24), (9, 16), (10, 16), (11, 16), (12, 8), (13, 24), (14, 24), (15, 8), (16, 8), (17, 8), (18, 8), (19, 8), (20, 16), (21, 4), (22, 8), (23, 8), (24, 8), (25, 0), (26, 8), (27, 4), (28, 24), (29, 0), (30, 8), (31, 8), (32, 24), (33, 32), (34, 32), (35, 8), (36, 8), (37, 32), (38, 32), (39, 8), (40, 8), (41, 8), (42, 0), (43, 8), (44, 8), (45, 8), (46, 24), (47, 24), (48, 24), (49, 24), (50, 112), (51, 112), (52, 8), (53, 40), (54, 8), (55, 8), (56, 8), (57, 8), (58, 24), (59, 8), (60, 8), (61, 0), (62, 8), (63, 8), (64, 0), (65, 8), (66, 8), (67, 0), (68, 8), (69, 8), (70, 8), (71, 8), (72, 32), (73, 32), (74, 8), (75, 8), (76, 8), (77, 56), (78, 56), (79, 8), (80, 8), (81, 8), (82, 8), (83, 8), (84, 8), (85, 24), (86, 24), (87, 8), (88, 24), (89, 72), (90, 72), (91, 8), (92, 8), (93, 0), (94, 8), (95, 0), (96, 8), (97, 8), (98, 0), (99, 8), (100, 16), (101, 16), (102, 8), (103, 8), (104, 8), (105, 8), (106, 8), (107, 8), (108, 8), (109, 0), (110, 8), (111, 8), (112, 8), (113, 8), (114, 8), (115, 8), (116, 8), (117, 8), (118, 0), (119, 8), (120, 8), (121, 8), (122, 8), (123, 8), (124, 8), (125, 8), (126, 0), (127, 8), (128, 8), (129, 8), (130, 8), (131, 8), (132, 4), (133, 8), (134, 8), (135, 8), (136, 8), (137, 8), (138, 8), (139, 8), (140, 8), (141, 8), (142, 8), (143, 8), (144, 40), (145, 40), (146, 0), (147, 0), (148, 0), (149, 1), (150, 1), (151, 8), (152, 8), (153, 4), (154, 4), (155, 48), (156, 48), (157, 8)]
def tabZ : List (Nat × Value) := [(0, (Go.Value.tuple #[])), (1, Go.Value.nilFunc), (2, (Go.Value.int Go.IntKind.i64 0)), (3, (Go.Value.int Go.IntKind.i64 0)), (4, (Go.Value.bool false)), (5, (Go.Value.int Go.IntKind.u8 0)), (6, (Go.Value.int Go.IntKind.u8 0)), (7, (Go.Value.agg #[Go.Value.int Go.IntKind.i64 0, Go.Value.int Go.IntKind.i64 0, Go.Value.bool false, Go.Value.int Go.IntKind.u8 0])), (8, (Go.Value.agg #[Go.Value.int Go.IntKind.i64 0, Go.Value.int Go.IntKind.i64 0, Go.Value.bool false, Go.Value.int Go.IntKind.u8 0])), (9, (Go.Value.string { data := #[] })), (10, (Go.Value.string { data := #[] })), (11, (Go.Value.string { data := #[] })), (12, (Go.Value.int Go.IntKind.u64 0)), (13, (Go.Value.agg #[Go.Value.string { data := #[] }, Go.Value.int Go.IntKind.u64 0])), (14, (Go.Value.agg #[Go.Value.string { data := #[] }, Go.Value.int Go.IntKind.u64 0])), (15, (Go.Value.pointer none)), (16, (Go.Value.pointer none)), (17, (Go.Value.pointer none)), (18, (Go.Value.agg #[Go.Value.pointer none])), (19, (Go.Value.agg #[Go.Value.pointer none])), (20, Go.Value.nilIface), (21, (Go.Value.int Go.IntKind.i32 0)), (22, (Go.Value.pointer none)), (23, Go.Value.nilFunc), (24, (Go.Value.int Go.IntKind.i64 0)), (25, (Go.Value.tuple #[Go.Value.int Go.IntKind.i64 0, Go.Value.int Go.IntKind.i64 0])), (26, Go.Value.nilFunc), (27, (Go.Value.int Go.IntKind.i32 0)), (28, (Go.Value.slice none 0 0)), (29, (Go.Value.tuple #[Go.Value.slice none 0 0, Go.Value.int Go.IntKind.i64 0, Go.Value.int Go.IntKind.i64 0])), (30, Go.Value.nilFunc), (31, Go.Value.nilFunc), (32, (Go.Value.slice none 0 0)), (33, (Go.Value.agg #[Go.Value.int Go.IntKind.i64 0, Go.Value.slice none 0 0])), (34, (Go.Value.agg #[Go.Value.int Go.IntKind.i64 0, Go.Value.slice none 0 0])), (35, (Go.Value.pointer none)), (36, Go.Value.nilFunc), (37, (Go.Value.agg #[Go.Value.pointer none, Go.Value.slice none 0 0])), (38, (Go.Value.agg #[Go.Value.pointer none, Go.Value.slice none 0 0])), (39, Go.Value.nilFunc), (40, Go.Value.nilFunc), (41, Go.Value.nilFunc), (42, (Go.Value.tuple #[Go.Value.slice none 0 0, Go.Value.bool false])), (43, Go.Value.nilFunc), (44, Go.Value.nilFunc), (45, (Go.Value.pointer none)), (46, (Go.Value.slice none 0 0)), (47, (Go.Value.slice none 0 0)), (48, (Go.Value.slice none 0 0)), (49, (Go.Value.slice none 0 0)), (50, (Go.Value.agg #[Go.Value.pointer none, Go.Value.slice none 0 0, Go.Value.slice none 0 0, Go.Value.slice none 0 0, Go.Value.slice none 0 0, Go.Value.int Go.IntKind.i64 0])), (51, (Go.Value.agg #[Go.Value.pointer none, Go.Value.slice none 0 0, Go.Value.slice none 0 0, Go.Value.slice none 0 0, Go.Value.slice none 0 0, Go.Value.int Go.IntKind.i64 0])), (52, Go.Value.nilFunc), (53, (Go.Value.agg #[Go.Value.bool false, Go.Value.bool false, Go.Value.bool false, Go.Value.bool false, Go.Value.bool false, Go.Value.bool false, Go.Value.bool false, Go.Value.bool false, Go.Value.bool false, Go.Value.bool false, Go.Value.bool false, Go.Value.bool false, Go.Value.bool false, Go.Value.bool false, Go.Value.bool false, Go.Value.bool false, Go.Value.bool false, Go.Value.bool false, Go.Value.bool false, Go.Value.bool false, Go.Value.bool false, Go.Value.bool false, Go.Value.bool false, Go.Value.bool false, Go.Value.bool false, Go.Value.bool false, Go.Value.bool false, Go.Value.bool false, Go.Value.bool false, Go.Value.bool false, Go.Value.bool false, Go.Value.bool false, Go.Value.bool false, Go.Value.bool false, Go.Value.bool false, Go.Value.bool false, Go.Value.bool false, Go.Value.bool false, Go.Value.bool false, Go.Value.bool false])), (54, Go.Value.nilFunc), (55, Go.Value.nilFunc), (56, Go.Value.nilFunc), (57, Go.Value.nilFunc), (58, (Go.Value.slice none 0 0)), (59, Go.Value.nilFunc), (60, Go.Value.nilFunc), (61, (Go.Value.tuple #[Go.Value.slice none 0 0, Go.Value.int Go.IntKind.i64 0, Go.Value.bool false])), (62, Go.Value.nilFunc), (63, Go.Value.nilFunc), (64, (Go.Value.tuple #[Go.Value.slice none 0 0, Go.Value.bool false, Go.Value.int Go.IntKind.i64 0])), (65, Go.Value.nilFunc), (66, Go.Value.nilFunc), (67, (Go.Value.tuple #[Go.Value.slice none 0 0, Go.Value.bool false, Go.Value.int Go.IntKind.i64 0])), (68, Go.Value.nilFunc), (69, Go.Value.nilFunc), (70, Go.Value.nilFunc), (71, Go.Value.nilFunc), (72, (Go.Value.agg #[Go.Value.slice none 0 0, Go.Value.bool false, Go.Value.bool false])), (73, (Go.Value.agg #[Go.Value.slice none 0 0, Go.Value.bool false, Go.Value.bool false])), (74, Go.Value.nilFunc), (75, (Go.Value.pointer none)), (76, (Go.Value.map none)), (77, (Go.Value.agg #[Go.Value.pointer none, Go.Value.map none, Go.Value.int Go.IntKind.i64 0, Go.Value.int Go.IntKind.i64 0, Go.Value.slice none 0 0])), (78, (Go.Value.agg #[Go.Value.pointer none, Go.Value.map none, Go.Value.int Go.IntKind.i64 0, Go.Value.int Go.IntKind.i64 0, Go.Value.slice none 0 0])), (79, Go.Value.nilFunc), (80, Go.Value.nilFunc), (81, Go.Value.nilFunc), (82, Go.Value.nilFunc), (83, (Go.Value.pointer none)), (84, Go.Value.nilFunc), (85, (Go.Value.agg #[Go.Value.int Go.IntKind.i64 0, Go.Value.int Go.IntKind.i64 0, Go.Value.int Go.IntKind.i64 0])), (86, (Go.Value.agg #[Go.Value.int Go.IntKind.i64 0, Go.Value.int Go.IntKind.i64 0, Go.Value.int Go.IntKind.i64 0])), (87, Go.Value.nilFunc), (88, (Go.Value.slice none 0 0)), (89, (Go.Value.agg #[Go.Value.slice none 0 0, Go.Value.slice none 0 0, Go.Value.slice none 0 0])), (90, (Go.Value.agg #[Go.Value.slice none 0 0, Go.Value.slice none 0 0, Go.Value.slice none 0 0])), (91, Go.Value.nilFunc), (92, Go.Value.nilFunc), (93, (Go.Value.tuple #[Go.Value.slice none 0 0, Go.Value.bool false])), (94, Go.Value.nilFunc), (95, (Go.Value.tuple #[Go.Value.int Go.IntKind.i64 0, Go.Value.int Go.IntKind.i64 0])), (96, Go.Value.nilFunc), (97, Go.Value.nilFunc), (98, (Go.Value.tuple #[Go.Value.slice none 0 0, Go.Value.int Go.IntKind.i64 0])), (99, Go.Value.nilFunc), (100, (Go.Value.agg #[Go.Value.int Go.IntKind.i64 0, Go.Value.int Go.IntKind.i64 0])), (101, (Go.Value.agg #[Go.Value.int Go.IntKind.i64 0, Go.Value.int Go.IntKind.i64 0])), (102, Go.Value.nilFunc), (103, Go.Value.nilFunc), (104, Go.Value.nilFunc), (105, Go.Value.nilFunc), (106, Go.Value.nilFunc), (107, Go.Value.nilFunc), (108, Go.Value.nilFunc), (109, (Go.Value.tuple #[Go.Value.int Go.IntKind.i64 0, Go.Value.bool false])), (110, Go.Value.nilFunc), (111, Go.Value.nilFunc), (112, Go.Value.nilFunc), (113, Go.Value.nilFunc), (114, Go.Value.nilFunc), (115, (Go.Value.pointer none)), (116, Go.Value.nilFunc), (117, Go.Value.nilFunc), (118, (Go.Value.tuple #[Go.Value.bool false, Go.Value.int Go.IntKind.i64 0, Go.Value.int Go.IntKind.i32 0])), (119, Go.Value.nilFunc), (120, Go.Value.nilFunc), (121, Go.Value.nilFunc), (122, (Go.Value.int Go.IntKind.u64 0)), (123, Go.Value.nilFunc), (124, Go.Value.nilFunc), (125, (Go.Value.int Go.IntKind.i64 0)), (126, (Go.Value.tuple #[Go.Value.int Go.IntKind.i64 0, Go.Value.int Go.IntKind.i64 0])), (127, Go.Value.nilFunc), (128, Go.Value.nilFunc), (129, Go.Value.nilFunc), (130, Go.Value.nilFunc), (131, Go.Value.nilFunc), (132, (Go.Value.int Go.IntKind.u32 0)), (133, Go.Value.nilFunc), (134, (Go.Value.int Go.IntKind.u64 0)), (135, (Go.Value.int Go.IntKind.u64 0)), (136, Go.Value.nilFunc), (137, Go.Value.nilFunc), (138, Go.Value.nilFunc), (139, (Go.Value.pointer none)), (140, Go.Value.nilFunc), (141, (Go.Value.pointer none)), (142, Go.Value.nilFunc), (143, Go.Value.nilFunc), (144, (Go.Value.agg #[Go.Value.pointer none, Go.Value.pointer none, Go.Value.pointer none, Go.Value.string { data := #[] }])), (145, (Go.Value.agg #[Go.Value.pointer none, Go.Value.pointer none, Go.Value.pointer none, Go.Value.string { data := #[] }])), (146, (Go.Value.agg #[])), (147, (Go.Value.agg #[])), (148, (Go.Value.agg #[])), (149, (Go.Value.int Go.IntKind.u8 0)), (150, (Go.Value.int Go.IntKind.u8 0)), (151, Go.Value.nilFunc), (152, (Go.Value.pointer none)), (153, (Go.Value.int Go.IntKind.i32 0)), (154, (Go.Value.int Go.IntKind.i32 0)), (155, (Go.Value.agg #[Go.Value.int Go.IntKind.u64 0, Go.Value.int Go.IntKind.u64 0, Go.Value.int Go.IntKind.u32 0, Go.Value.int Go.IntKind.u8 0, Go.Value.int Go.IntKind.u8 0, Go.Value.int Go.IntKind.u8 0, Go.Value.int Go.IntKind.u8 0, Go.Value.nilFunc, Go.Value.pointer none, Go.Value.int Go.IntKind.i32 0, Go.Value.int Go.IntKind.i32 0])), (156, (Go.Value.agg #[Go.Value.int Go.IntKind.u64 0, Go.Value.int Go.IntKind.u64 0, Go.Value.int Go.IntKind.u32 0, Go.Value.int Go.IntKind.u8 0, Go.Value.int Go.IntKind.u8 0, Go.Value.int Go.IntKind.u8 0, Go.Value.int Go.IntKind.u8 0, Go.Value.nilFunc, Go.Value.pointer none, Go.Value.int Go.IntKind.i32 0, Go.Value.int Go.IntKind.i32 0])), (157, (Go.Value.pointer none))]
def tab : Tab := ⟨tabD, tabS, tabB, tabZ⟩

theorem tabD_ok : ∀ x ∈ tabD, Try.prog.underlying x.1 = some x.2 := by
  refine all_cons (Try.underlying0) ?_
  refine all_cons (Try.underlying1) ?_
  refine all_cons (Try.underlying2) ?_
  refine all_cons (Try.underlying3) ?_
  refine all_cons (Try.underlying4) ?_
  refine all_cons (Try.underlying5) ?_
  refine all_cons (Try.underlying6) ?_
  refine all_cons (Try.underlying7) ?_
  refine all_cons (Try.underlying8) ?_
  refine all_cons (Try.underlying9) ?_
  refine all_cons (Try.underlying10) ?_
  refine all_cons (Try.underlying11) ?_
  refine all_cons (Try.underlying12) ?_
  refine all_cons (Try.underlying13) ?_
  refine all_cons (Try.underlying14) ?_
  refine all_cons (Try.underlying15) ?_
  refine all_cons (Try.underlying16) ?_
  refine all_cons (Try.underlying17) ?_
  refine all_cons (Try.underlying18) ?_
  refine all_cons (Try.underlying19) ?_
  refine all_cons (Try.underlying20) ?_
  refine all_cons (Try.underlying21) ?_
  refine all_cons (Try.underlying22) ?_
  refine all_cons (Try.underlying23) ?_
  refine all_cons (Try.underlying24) ?_
  refine all_cons (Try.underlying25) ?_
  refine all_cons (Try.underlying26) ?_
  refine all_cons (Try.underlying27) ?_
  refine all_cons (Try.underlying28) ?_
  refine all_cons (Try.underlying29) ?_
  refine all_cons (Try.underlying30) ?_
  refine all_cons (Try.underlying31) ?_
  refine all_cons (Try.underlying32) ?_
  refine all_cons (Try.underlying33) ?_
  refine all_cons (Try.underlying34) ?_
  refine all_cons (Try.underlying35) ?_
  refine all_cons (Try.underlying36) ?_
  refine all_cons (Try.underlying37) ?_
  refine all_cons (Try.underlying38) ?_
  refine all_cons (Try.underlying39) ?_
  refine all_cons (Try.underlying40) ?_
  refine all_cons (Try.underlying41) ?_
  refine all_cons (Try.underlying42) ?_
  refine all_cons (Try.underlying43) ?_
  refine all_cons (Try.underlying44) ?_
  refine all_cons (Try.underlying45) ?_
  refine all_cons (Try.underlying46) ?_
  refine all_cons (Try.underlying47) ?_
  refine all_cons (Try.underlying48) ?_
  refine all_cons (Try.underlying49) ?_
  refine all_cons (Try.underlying50) ?_
  refine all_cons (Try.underlying51) ?_
  refine all_cons (Try.underlying52) ?_
  refine all_cons (Try.underlying53) ?_
  refine all_cons (Try.underlying54) ?_
  refine all_cons (Try.underlying55) ?_
  refine all_cons (Try.underlying56) ?_
  refine all_cons (Try.underlying57) ?_
  refine all_cons (Try.underlying58) ?_
  refine all_cons (Try.underlying59) ?_
  refine all_cons (Try.underlying60) ?_
  refine all_cons (Try.underlying61) ?_
  refine all_cons (Try.underlying62) ?_
  refine all_cons (Try.underlying63) ?_
  refine all_cons (Try.underlying64) ?_
  refine all_cons (Try.underlying65) ?_
  refine all_cons (Try.underlying66) ?_
  refine all_cons (Try.underlying67) ?_
  refine all_cons (Try.underlying68) ?_
  refine all_cons (Try.underlying69) ?_
  refine all_cons (Try.underlying70) ?_
  refine all_cons (Try.underlying71) ?_
  refine all_cons (Try.underlying72) ?_
  refine all_cons (Try.underlying73) ?_
  refine all_cons (Try.underlying74) ?_
  refine all_cons (Try.underlying75) ?_
  refine all_cons (Try.underlying76) ?_
  refine all_cons (Try.underlying77) ?_
  refine all_cons (Try.underlying78) ?_
  refine all_cons (Try.underlying79) ?_
  refine all_cons (Try.underlying80) ?_
  refine all_cons (Try.underlying81) ?_
  refine all_cons (Try.underlying82) ?_
  refine all_cons (Try.underlying83) ?_
  refine all_cons (Try.underlying84) ?_
  refine all_cons (Try.underlying85) ?_
  refine all_cons (Try.underlying86) ?_
  refine all_cons (Try.underlying87) ?_
  refine all_cons (Try.underlying88) ?_
  refine all_cons (Try.underlying89) ?_
  refine all_cons (Try.underlying90) ?_
  refine all_cons (Try.underlying91) ?_
  refine all_cons (Try.underlying92) ?_
  refine all_cons (Try.underlying93) ?_
  refine all_cons (Try.underlying94) ?_
  refine all_cons (Try.underlying95) ?_
  refine all_cons (Try.underlying96) ?_
  refine all_cons (Try.underlying97) ?_
  refine all_cons (Try.underlying98) ?_
  refine all_cons (Try.underlying99) ?_
  refine all_cons (Try.underlying100) ?_
  refine all_cons (Try.underlying101) ?_
  refine all_cons (Try.underlying102) ?_
  refine all_cons (Try.underlying103) ?_
  refine all_cons (Try.underlying104) ?_
  refine all_cons (Try.underlying105) ?_
  refine all_cons (Try.underlying106) ?_
  refine all_cons (Try.underlying107) ?_
  refine all_cons (Try.underlying108) ?_
  refine all_cons (Try.underlying109) ?_
  refine all_cons (Try.underlying110) ?_
  refine all_cons (Try.underlying111) ?_
  refine all_cons (Try.underlying112) ?_
  refine all_cons (Try.underlying113) ?_
  refine all_cons (Try.underlying114) ?_
  refine all_cons (Try.underlying115) ?_
  refine all_cons (Try.underlying116) ?_
  refine all_cons (Try.underlying117) ?_
  refine all_cons (Try.underlying118) ?_
  refine all_cons (Try.underlying119) ?_
  refine all_cons (Try.underlying120) ?_
  refine all_cons (Try.underlying121) ?_
  refine all_cons (Try.underlying122) ?_
  refine all_cons (Try.underlying123) ?_
  refine all_cons (Try.underlying124) ?_
  refine all_cons (Try.underlying125) ?_
  refine all_cons (Try.underlying126) ?_
  refine all_cons (Try.underlying127) ?_
  refine all_cons (Try.underlying128) ?_
  refine all_cons (Try.underlying129) ?_
  refine all_cons (Try.underlying130) ?_
  refine all_cons (Try.underlying131) ?_
  refine all_cons (Try.underlying132) ?_
  refine all_cons (Try.underlying133) ?_
  refine all_cons (Try.underlying134) ?_
  refine all_cons (Try.underlying135) ?_
  refine all_cons (Try.underlying136) ?_
  refine all_cons (Try.underlying137) ?_
  refine all_cons (Try.underlying138) ?_
  refine all_cons (Try.underlying139) ?_
  refine all_cons (Try.underlying140) ?_
  refine all_cons (Try.underlying141) ?_
  refine all_cons (Try.underlying142) ?_
  refine all_cons (Try.underlying143) ?_
  refine all_cons (Try.underlying144) ?_
  refine all_cons (Try.underlying145) ?_
  refine all_cons (Try.underlying146) ?_
  refine all_cons (Try.underlying147) ?_
  refine all_cons (Try.underlying148) ?_
  refine all_cons (Try.underlying149) ?_
  refine all_cons (Try.underlying150) ?_
  refine all_cons (Try.underlying151) ?_
  refine all_cons (Try.underlying152) ?_
  refine all_cons (Try.underlying153) ?_
  refine all_cons (Try.underlying154) ?_
  refine all_cons (Try.underlying155) ?_
  refine all_cons (Try.underlying156) ?_
  refine all_cons (Try.underlying157) ?_
  exact fun _ h => nomatch h

theorem tabS_ok : ∀ x ∈ tabS, ∀ w, (sizeOf x.1).run Try.prog w = .ok x.2 w := by
  refine all_cons (Try.sizeOf0) ?_
  refine all_cons (Try.sizeOf1) ?_
  refine all_cons (Try.sizeOf2) ?_
  refine all_cons (Try.sizeOf3) ?_
  refine all_cons (Try.sizeOf4) ?_
  refine all_cons (Try.sizeOf5) ?_
  refine all_cons (Try.sizeOf6) ?_
  refine all_cons (Try.sizeOf7) ?_
  refine all_cons (Try.sizeOf8) ?_
  refine all_cons (Try.sizeOf9) ?_
  refine all_cons (Try.sizeOf10) ?_
  refine all_cons (Try.sizeOf11) ?_
  refine all_cons (Try.sizeOf12) ?_
  refine all_cons (Try.sizeOf13) ?_
  refine all_cons (Try.sizeOf14) ?_
  refine all_cons (Try.sizeOf15) ?_
  refine all_cons (Try.sizeOf16) ?_
  refine all_cons (Try.sizeOf17) ?_
  refine all_cons (Try.sizeOf18) ?_
  refine all_cons (Try.sizeOf19) ?_
  refine all_cons (Try.sizeOf20) ?_
  refine all_cons (Try.sizeOf21) ?_
  refine all_cons (Try.sizeOf22) ?_
  refine all_cons (Try.sizeOf23) ?_
  refine all_cons (Try.sizeOf24) ?_
  refine all_cons (Try.sizeOf25) ?_
  refine all_cons (Try.sizeOf26) ?_
  refine all_cons (Try.sizeOf27) ?_
  refine all_cons (Try.sizeOf28) ?_
  refine all_cons (Try.sizeOf29) ?_
  refine all_cons (Try.sizeOf30) ?_
  refine all_cons (Try.sizeOf31) ?_
  refine all_cons (Try.sizeOf32) ?_
  refine all_cons (Try.sizeOf33) ?_
  refine all_cons (Try.sizeOf34) ?_
  refine all_cons (Try.sizeOf35) ?_
  refine all_cons (Try.sizeOf36) ?_
  refine all_cons (Try.sizeOf37) ?_
  refine all_cons (Try.sizeOf38) ?_
  refine all_cons (Try.sizeOf39) ?_
  refine all_cons (Try.sizeOf40) ?_
  refine all_cons (Try.sizeOf41) ?_
  refine all_cons (Try.sizeOf42) ?_
  refine all_cons (Try.sizeOf43) ?_
  refine all_cons (Try.sizeOf44) ?_
  refine all_cons (Try.sizeOf45) ?_
  refine all_cons (Try.sizeOf46) ?_
  refine all_cons (Try.sizeOf47) ?_
  refine all_cons (Try.sizeOf48) ?_
  refine all_cons (Try.sizeOf49) ?_
  refine all_cons (Try.sizeOf50) ?_
  refine all_cons (Try.sizeOf51) ?_
  refine all_cons (Try.sizeOf52) ?_
  refine all_cons (Try.sizeOf53) ?_
  refine all_cons (Try.sizeOf54) ?_
  refine all_cons (Try.sizeOf55) ?_
  refine all_cons (Try.sizeOf56) ?_
  refine all_cons (Try.sizeOf57) ?_
  refine all_cons (Try.sizeOf58) ?_
  refine all_cons (Try.sizeOf59) ?_
  refine all_cons (Try.sizeOf60) ?_
  refine all_cons (Try.sizeOf61) ?_
  refine all_cons (Try.sizeOf62) ?_
  refine all_cons (Try.sizeOf63) ?_
  refine all_cons (Try.sizeOf64) ?_
  refine all_cons (Try.sizeOf65) ?_
  refine all_cons (Try.sizeOf66) ?_
  refine all_cons (Try.sizeOf67) ?_
  refine all_cons (Try.sizeOf68) ?_
  refine all_cons (Try.sizeOf69) ?_
  refine all_cons (Try.sizeOf70) ?_
  refine all_cons (Try.sizeOf71) ?_
  refine all_cons (Try.sizeOf72) ?_
  refine all_cons (Try.sizeOf73) ?_
  refine all_cons (Try.sizeOf74) ?_
  refine all_cons (Try.sizeOf75) ?_
  refine all_cons (Try.sizeOf76) ?_
  refine all_cons (Try.sizeOf77) ?_
  refine all_cons (Try.sizeOf78) ?_
  refine all_cons (Try.sizeOf79) ?_
  refine all_cons (Try.sizeOf80) ?_
  refine all_cons (Try.sizeOf81) ?_
  refine all_cons (Try.sizeOf82) ?_
  refine all_cons (Try.sizeOf83) ?_
  refine all_cons (Try.sizeOf84) ?_
  refine all_cons (Try.sizeOf85) ?_
  refine all_cons (Try.sizeOf86) ?_
  refine all_cons (Try.sizeOf87) ?_
  refine all_cons (Try.sizeOf88) ?_
  refine all_cons (Try.sizeOf89) ?_
  refine all_cons (Try.sizeOf90) ?_
  refine all_cons (Try.sizeOf91) ?_
  refine all_cons (Try.sizeOf92) ?_
  refine all_cons (Try.sizeOf93) ?_
  refine all_cons (Try.sizeOf94) ?_
  refine all_cons (Try.sizeOf95) ?_
  refine all_cons (Try.sizeOf96) ?_
  refine all_cons (Try.sizeOf97) ?_
  refine all_cons (Try.sizeOf98) ?_
  refine all_cons (Try.sizeOf99) ?_
  refine all_cons (Try.sizeOf100) ?_
  refine all_cons (Try.sizeOf101) ?_
  refine all_cons (Try.sizeOf102) ?_
  refine all_cons (Try.sizeOf103) ?_
  refine all_cons (Try.sizeOf104) ?_
  refine all_cons (Try.sizeOf105) ?_
  refine all_cons (Try.sizeOf106) ?_
  refine all_cons (Try.sizeOf107) ?_
  refine all_cons (Try.sizeOf108) ?_
  refine all_cons (Try.sizeOf109) ?_
  refine all_cons (Try.sizeOf110) ?_
  refine all_cons (Try.sizeOf111) ?_
  refine all_cons (Try.sizeOf112) ?_
  refine all_cons (Try.sizeOf113) ?_
  refine all_cons (Try.sizeOf114) ?_
  refine all_cons (Try.sizeOf115) ?_
  refine all_cons (Try.sizeOf116) ?_
  refine all_cons (Try.sizeOf117) ?_
  refine all_cons (Try.sizeOf118) ?_
  refine all_cons (Try.sizeOf119) ?_
  refine all_cons (Try.sizeOf120) ?_
  refine all_cons (Try.sizeOf121) ?_
  refine all_cons (Try.sizeOf122) ?_
  refine all_cons (Try.sizeOf123) ?_
  refine all_cons (Try.sizeOf124) ?_
  refine all_cons (Try.sizeOf125) ?_
  refine all_cons (Try.sizeOf126) ?_
  refine all_cons (Try.sizeOf127) ?_
  refine all_cons (Try.sizeOf128) ?_
  refine all_cons (Try.sizeOf129) ?_
  refine all_cons (Try.sizeOf130) ?_
  refine all_cons (Try.sizeOf131) ?_
  refine all_cons (Try.sizeOf132) ?_
  refine all_cons (Try.sizeOf133) ?_
  refine all_cons (Try.sizeOf134) ?_
  refine all_cons (Try.sizeOf135) ?_
  refine all_cons (Try.sizeOf136) ?_
  refine all_cons (Try.sizeOf137) ?_
  refine all_cons (Try.sizeOf138) ?_
  refine all_cons (Try.sizeOf139) ?_
  refine all_cons (Try.sizeOf140) ?_
  refine all_cons (Try.sizeOf141) ?_
  refine all_cons (Try.sizeOf142) ?_
  refine all_cons (Try.sizeOf143) ?_
  refine all_cons (Try.sizeOf144) ?_
  refine all_cons (Try.sizeOf145) ?_
  refine all_cons (Try.sizeOf146) ?_
  refine all_cons (Try.sizeOf147) ?_
  refine all_cons (Try.sizeOf148) ?_
  refine all_cons (Try.sizeOf149) ?_
  refine all_cons (Try.sizeOf150) ?_
  refine all_cons (Try.sizeOf151) ?_
  refine all_cons (Try.sizeOf152) ?_
  refine all_cons (Try.sizeOf153) ?_
  refine all_cons (Try.sizeOf154) ?_
  refine all_cons (Try.sizeOf155) ?_
  refine all_cons (Try.sizeOf156) ?_
  refine all_cons (Try.sizeOf157) ?_
  exact fun _ h => nomatch h

theorem tabB_ok : ∀ x ∈ tabB, ∀ w, ∃ i, (typeInfo x.1).run Try.prog w = .ok i w ∧ i.bytes = x.2 := by
  refine all_cons (fun w => ⟨_, Try.typeInfo0 w, rfl⟩) ?_
  refine all_cons (fun w => ⟨_, Try.typeInfo1 w, rfl⟩) ?_
  refine all_cons (fun w => ⟨_, Try.typeInfo2 w, rfl⟩) ?_
  refine all_cons (fun w => ⟨_, Try.typeInfo3 w, rfl⟩) ?_
  refine all_cons (fun w => ⟨_, Try.typeInfo4 w, rfl⟩) ?_
  refine all_cons (fun w => ⟨_, Try.typeInfo5 w, rfl⟩) ?_
  refine all_cons (fun w => ⟨_, Try.typeInfo6 w, rfl⟩) ?_
  refine all_cons (fun w => ⟨_, Try.typeInfo7 w, rfl⟩) ?_
  refine all_cons (fun w => ⟨_, Try.typeInfo8 w, rfl⟩) ?_
  refine all_cons (fun w => ⟨_, Try.typeInfo9 w, rfl⟩) ?_
  refine all_cons (fun w => ⟨_, Try.typeInfo10 w, rfl⟩) ?_
  refine all_cons (fun w => ⟨_, Try.typeInfo11 w, rfl⟩) ?_
  refine all_cons (fun w => ⟨_, Try.typeInfo12 w, rfl⟩) ?_
  refine all_cons (fun w => ⟨_, Try.typeInfo13 w, rfl⟩) ?_
  refine all_cons (fun w => ⟨_, Try.typeInfo14 w, rfl⟩) ?_
  refine all_cons (fun w => ⟨_, Try.typeInfo15 w, rfl⟩) ?_
  refine all_cons (fun w => ⟨_, Try.typeInfo16 w, rfl⟩) ?_
  refine all_cons (fun w => ⟨_, Try.typeInfo17 w, rfl⟩) ?_
  refine all_cons (fun w => ⟨_, Try.typeInfo18 w, rfl⟩) ?_
  refine all_cons (fun w => ⟨_, Try.typeInfo19 w, rfl⟩) ?_
  refine all_cons (fun w => ⟨_, Try.typeInfo20 w, rfl⟩) ?_
  refine all_cons (fun w => ⟨_, Try.typeInfo21 w, rfl⟩) ?_
  refine all_cons (fun w => ⟨_, Try.typeInfo22 w, rfl⟩) ?_
  refine all_cons (fun w => ⟨_, Try.typeInfo23 w, rfl⟩) ?_
  refine all_cons (fun w => ⟨_, Try.typeInfo24 w, rfl⟩) ?_
  refine all_cons (fun w => ⟨_, Try.typeInfo25 w, rfl⟩) ?_
  refine all_cons (fun w => ⟨_, Try.typeInfo26 w, rfl⟩) ?_
  refine all_cons (fun w => ⟨_, Try.typeInfo27 w, rfl⟩) ?_
  refine all_cons (fun w => ⟨_, Try.typeInfo28 w, rfl⟩) ?_
  refine all_cons (fun w => ⟨_, Try.typeInfo29 w, rfl⟩) ?_
  refine all_cons (fun w => ⟨_, Try.typeInfo30 w, rfl⟩) ?_
  refine all_cons (fun w => ⟨_, Try.typeInfo31 w, rfl⟩) ?_
  refine all_cons (fun w => ⟨_, Try.typeInfo32 w, rfl⟩) ?_
  refine all_cons (fun w => ⟨_, Try.typeInfo33 w, rfl⟩) ?_
  refine all_cons (fun w => ⟨_, Try.typeInfo34 w, rfl⟩) ?_
  refine all_cons (fun w => ⟨_, Try.typeInfo35 w, rfl⟩) ?_
  refine all_cons (fun w => ⟨_, Try.typeInfo36 w, rfl⟩) ?_
  refine all_cons (fun w => ⟨_, Try.typeInfo37 w, rfl⟩) ?_
  refine all_cons (fun w => ⟨_, Try.typeInfo38 w, rfl⟩) ?_
  refine all_cons (fun w => ⟨_, Try.typeInfo39 w, rfl⟩) ?_
  refine all_cons (fun w => ⟨_, Try.typeInfo40 w, rfl⟩) ?_
  refine all_cons (fun w => ⟨_, Try.typeInfo41 w, rfl⟩) ?_
  refine all_cons (fun w => ⟨_, Try.typeInfo42 w, rfl⟩) ?_
  refine all_cons (fun w => ⟨_, Try.typeInfo43 w, rfl⟩) ?_
  refine all_cons (fun w => ⟨_, Try.typeInfo44 w, rfl⟩) ?_
  refine all_cons (fun w => ⟨_, Try.typeInfo45 w, rfl⟩) ?_
  refine all_cons (fun w => ⟨_, Try.typeInfo46 w, rfl⟩) ?_
  refine all_cons (fun w => ⟨_, Try.typeInfo47 w, rfl⟩) ?_
  refine all_cons (fun w => ⟨_, Try.typeInfo48 w, rfl⟩) ?_
  refine all_cons (fun w => ⟨_, Try.typeInfo49 w, rfl⟩) ?_
  refine all_cons (fun w => ⟨_, Try.typeInfo50 w, rfl⟩) ?_
  refine all_cons (fun w => ⟨_, Try.typeInfo51 w, rfl⟩) ?_
  refine all_cons (fun w => ⟨_, Try.typeInfo52 w, rfl⟩) ?_
  refine all_cons (fun w => ⟨_, Try.typeInfo53 w, rfl⟩) ?_
  refine all_cons (fun w => ⟨_, Try.typeInfo54 w, rfl⟩) ?_
  refine all_cons (fun w => ⟨_, Try.typeInfo55 w, rfl⟩) ?_
  refine all_cons (fun w => ⟨_, Try.typeInfo56 w, rfl⟩) ?_
  refine all_cons (fun w => ⟨_, Try.typeInfo57 w, rfl⟩) ?_
  refine all_cons (fun w => ⟨_, Try.typeInfo58 w, rfl⟩) ?_
  refine all_cons (fun w => ⟨_, Try.typeInfo59 w, rfl⟩) ?_
  refine all_cons (fun w => ⟨_, Try.typeInfo60 w, rfl⟩) ?_
  refine all_cons (fun w => ⟨_, Try.typeInfo61 w, rfl⟩) ?_
  refine all_cons (fun w => ⟨_, Try.typeInfo62 w, rfl⟩) ?_
  refine all_cons (fun w => ⟨_, Try.typeInfo63 w, rfl⟩) ?_
  refine all_cons (fun w => ⟨_, Try.typeInfo64 w, rfl⟩) ?_
  refine all_cons (fun w => ⟨_, Try.typeInfo65 w, rfl⟩) ?_
  refine all_cons (fun w => ⟨_, Try.typeInfo66 w, rfl⟩) ?_
  refine all_cons (fun w => ⟨_, Try.typeInfo67 w, rfl⟩) ?_
  refine all_cons (fun w => ⟨_, Try.typeInfo68 w, rfl⟩) ?_
  refine all_cons (fun w => ⟨_, Try.typeInfo69 w, rfl⟩) ?_
  refine all_cons (fun w => ⟨_, Try.typeInfo70 w, rfl⟩) ?_
  refine all_cons (fun w => ⟨_, Try.typeInfo71 w, rfl⟩) ?_
  refine all_cons (fun w => ⟨_, Try.typeInfo72 w, rfl⟩) ?_
  refine all_cons (fun w => ⟨_, Try.typeInfo73 w, rfl⟩) ?_
  refine all_cons (fun w => ⟨_, Try.typeInfo74 w, rfl⟩) ?_
  refine all_cons (fun w => ⟨_, Try.typeInfo75 w, rfl⟩) ?_
  refine all_cons (fun w => ⟨_, Try.typeInfo76 w, rfl⟩) ?_
  refine all_cons (fun w => ⟨_, Try.typeInfo77 w, rfl⟩) ?_
  refine all_cons (fun w => ⟨_, Try.typeInfo78 w, rfl⟩) ?_
  refine all_cons (fun w => ⟨_, Try.typeInfo79 w, rfl⟩) ?_
  refine all_cons (fun w => ⟨_, Try.typeInfo80 w, rfl⟩) ?_
  refine all_cons (fun w => ⟨_, Try.typeInfo81 w, rfl⟩) ?_
  refine all_cons (fun w => ⟨_, Try.typeInfo82 w, rfl⟩) ?_
  refine all_cons (fun w => ⟨_, Try.typeInfo83 w, rfl⟩) ?_
  refine all_cons (fun w => ⟨_, Try.typeInfo84 w, rfl⟩) ?_
  refine all_cons (fun w => ⟨_, Try.typeInfo85 w, rfl⟩) ?_
  refine all_cons (fun w => ⟨_, Try.typeInfo86 w, rfl⟩) ?_
  refine all_cons (fun w => ⟨_, Try.typeInfo87 w, rfl⟩) ?_
  refine all_cons (fun w => ⟨_, Try.typeInfo88 w, rfl⟩) ?_
  refine all_cons (fun w => ⟨_, Try.typeInfo89 w, rfl⟩) ?_
  refine all_cons (fun w => ⟨_, Try.typeInfo90 w, rfl⟩) ?_
  refine all_cons (fun w => ⟨_, Try.typeInfo91 w, rfl⟩) ?_
  refine all_cons (fun w => ⟨_, Try.typeInfo92 w, rfl⟩) ?_
  refine all_cons (fun w => ⟨_, Try.typeInfo93 w, rfl⟩) ?_
  refine all_cons (fun w => ⟨_, Try.typeInfo94 w, rfl⟩) ?_
  refine all_cons (fun w => ⟨_, Try.typeInfo95 w, rfl⟩) ?_
  refine all_cons (fun w => ⟨_, Try.typeInfo96 w, rfl⟩) ?_
  refine all_cons (fun w => ⟨_, Try.typeInfo97 w, rfl⟩) ?_
  refine all_cons (fun w => ⟨_, Try.typeInfo98 w, rfl⟩) ?_
  refine all_cons (fun w => ⟨_, Try.typeInfo99 w, rfl⟩) ?_
  refine all_cons (fun w => ⟨_, Try.typeInfo100 w, rfl⟩) ?_
  refine all_cons (fun w => ⟨_, Try.typeInfo101 w, rfl⟩) ?_
  refine all_cons (fun w => ⟨_, Try.typeInfo102 w, rfl⟩) ?_
  refine all_cons (fun w => ⟨_, Try.typeInfo103 w, rfl⟩) ?_
  refine all_cons (fun w => ⟨_, Try.typeInfo104 w, rfl⟩) ?_
  refine all_cons (fun w => ⟨_, Try.typeInfo105 w, rfl⟩) ?_
  refine all_cons (fun w => ⟨_, Try.typeInfo106 w, rfl⟩) ?_
  refine all_cons (fun w => ⟨_, Try.typeInfo107 w, rfl⟩) ?_
  refine all_cons (fun w => ⟨_, Try.typeInfo108 w, rfl⟩) ?_
  refine all_cons (fun w => ⟨_, Try.typeInfo109 w, rfl⟩) ?_
  refine all_cons (fun w => ⟨_, Try.typeInfo110 w, rfl⟩) ?_
  refine all_cons (fun w => ⟨_, Try.typeInfo111 w, rfl⟩) ?_
  refine all_cons (fun w => ⟨_, Try.typeInfo112 w, rfl⟩) ?_
  refine all_cons (fun w => ⟨_, Try.typeInfo113 w, rfl⟩) ?_
  refine all_cons (fun w => ⟨_, Try.typeInfo114 w, rfl⟩) ?_
  refine all_cons (fun w => ⟨_, Try.typeInfo115 w, rfl⟩) ?_
  refine all_cons (fun w => ⟨_, Try.typeInfo116 w, rfl⟩) ?_
  refine all_cons (fun w => ⟨_, Try.typeInfo117 w, rfl⟩) ?_
  refine all_cons (fun w => ⟨_, Try.typeInfo118 w, rfl⟩) ?_
  refine all_cons (fun w => ⟨_, Try.typeInfo119 w, rfl⟩) ?_
  refine all_cons (fun w => ⟨_, Try.typeInfo120 w, rfl⟩) ?_
  refine all_cons (fun w => ⟨_, Try.typeInfo121 w, rfl⟩) ?_
  refine all_cons (fun w => ⟨_, Try.typeInfo122 w, rfl⟩) ?_
  refine all_cons (fun w => ⟨_, Try.typeInfo123 w, rfl⟩) ?_
  refine all_cons (fun w => ⟨_, Try.typeInfo124 w, rfl⟩) ?_
  refine all_cons (fun w => ⟨_, Try.typeInfo125 w, rfl⟩) ?_
  refine all_cons (fun w => ⟨_, Try.typeInfo126 w, rfl⟩) ?_
  refine all_cons (fun w => ⟨_, Try.typeInfo127 w, rfl⟩) ?_
  refine all_cons (fun w => ⟨_, Try.typeInfo128 w, rfl⟩) ?_
  refine all_cons (fun w => ⟨_, Try.typeInfo129 w, rfl⟩) ?_
  refine all_cons (fun w => ⟨_, Try.typeInfo130 w, rfl⟩) ?_
  refine all_cons (fun w => ⟨_, Try.typeInfo131 w, rfl⟩) ?_
  refine all_cons (fun w => ⟨_, Try.typeInfo132 w, rfl⟩) ?_
  refine all_cons (fun w => ⟨_, Try.typeInfo133 w, rfl⟩) ?_
  refine all_cons (fun w => ⟨_, Try.typeInfo134 w, rfl⟩) ?_
  refine all_cons (fun w => ⟨_, Try.typeInfo135 w, rfl⟩) ?_
  refine all_cons (fun w => ⟨_, Try.typeInfo136 w, rfl⟩) ?_
  refine all_cons (fun w => ⟨_, Try.typeInfo137 w, rfl⟩) ?_
  refine all_cons (fun w => ⟨_, Try.typeInfo138 w, rfl⟩) ?_
  refine all_cons (fun w => ⟨_, Try.typeInfo139 w, rfl⟩) ?_
  refine all_cons (fun w => ⟨_, Try.typeInfo140 w, rfl⟩) ?_
  refine all_cons (fun w => ⟨_, Try.typeInfo141 w, rfl⟩) ?_
  refine all_cons (fun w => ⟨_, Try.typeInfo142 w, rfl⟩) ?_
  refine all_cons (fun w => ⟨_, Try.typeInfo143 w, rfl⟩) ?_
  refine all_cons (fun w => ⟨_, Try.typeInfo144 w, rfl⟩) ?_
  refine all_cons (fun w => ⟨_, Try.typeInfo145 w, rfl⟩) ?_
  refine all_cons (fun w => ⟨_, Try.typeInfo146 w, rfl⟩) ?_
  refine all_cons (fun w => ⟨_, Try.typeInfo147 w, rfl⟩) ?_
  refine all_cons (fun w => ⟨_, Try.typeInfo148 w, rfl⟩) ?_
  refine all_cons (fun w => ⟨_, Try.typeInfo149 w, rfl⟩) ?_
  refine all_cons (fun w => ⟨_, Try.typeInfo150 w, rfl⟩) ?_
  refine all_cons (fun w => ⟨_, Try.typeInfo151 w, rfl⟩) ?_
  refine all_cons (fun w => ⟨_, Try.typeInfo152 w, rfl⟩) ?_
  refine all_cons (fun w => ⟨_, Try.typeInfo153 w, rfl⟩) ?_
  refine all_cons (fun w => ⟨_, Try.typeInfo154 w, rfl⟩) ?_
  refine all_cons (fun w => ⟨_, Try.typeInfo155 w, rfl⟩) ?_
  refine all_cons (fun w => ⟨_, Try.typeInfo156 w, rfl⟩) ?_
  refine all_cons (fun w => ⟨_, Try.typeInfo157 w, rfl⟩) ?_
  exact fun _ h => nomatch h

theorem tabZ_ok : ∀ x ∈ tabZ, ∀ w, (zeroValue x.1).run Try.prog w = .ok x.2 w := by
  refine all_cons (Try.zeroValue0) ?_
  refine all_cons (Try.zeroValue1) ?_
  refine all_cons (Try.zeroValue2) ?_
  refine all_cons (Try.zeroValue3) ?_
  refine all_cons (Try.zeroValue4) ?_
  refine all_cons (Try.zeroValue5) ?_
  refine all_cons (Try.zeroValue6) ?_
  refine all_cons (Try.zeroValue7) ?_
  refine all_cons (Try.zeroValue8) ?_
  refine all_cons (Try.zeroValue9) ?_
  refine all_cons (Try.zeroValue10) ?_
  refine all_cons (Try.zeroValue11) ?_
  refine all_cons (Try.zeroValue12) ?_
  refine all_cons (Try.zeroValue13) ?_
  refine all_cons (Try.zeroValue14) ?_
  refine all_cons (Try.zeroValue15) ?_
  refine all_cons (Try.zeroValue16) ?_
  refine all_cons (Try.zeroValue17) ?_
  refine all_cons (Try.zeroValue18) ?_
  refine all_cons (Try.zeroValue19) ?_
  refine all_cons (Try.zeroValue20) ?_
  refine all_cons (Try.zeroValue21) ?_
  refine all_cons (Try.zeroValue22) ?_
  refine all_cons (Try.zeroValue23) ?_
  refine all_cons (Try.zeroValue24) ?_
  refine all_cons (Try.zeroValue25) ?_
  refine all_cons (Try.zeroValue26) ?_
  refine all_cons (Try.zeroValue27) ?_
  refine all_cons (Try.zeroValue28) ?_
  refine all_cons (Try.zeroValue29) ?_
  refine all_cons (Try.zeroValue30) ?_
  refine all_cons (Try.zeroValue31) ?_
  refine all_cons (Try.zeroValue32) ?_
  refine all_cons (Try.zeroValue33) ?_
  refine all_cons (Try.zeroValue34) ?_
  refine all_cons (Try.zeroValue35) ?_
  refine all_cons (Try.zeroValue36) ?_
  refine all_cons (Try.zeroValue37) ?_
  refine all_cons (Try.zeroValue38) ?_
  refine all_cons (Try.zeroValue39) ?_
  refine all_cons (Try.zeroValue40) ?_
  refine all_cons (Try.zeroValue41) ?_
  refine all_cons (Try.zeroValue42) ?_
  refine all_cons (Try.zeroValue43) ?_
  refine all_cons (Try.zeroValue44) ?_
  refine all_cons (Try.zeroValue45) ?_
  refine all_cons (Try.zeroValue46) ?_
  refine all_cons (Try.zeroValue47) ?_
  refine all_cons (Try.zeroValue48) ?_
  refine all_cons (Try.zeroValue49) ?_
  refine all_cons (Try.zeroValue50) ?_
  refine all_cons (Try.zeroValue51) ?_
  refine all_cons (Try.zeroValue52) ?_
  refine all_cons (Try.zeroValue53) ?_
  refine all_cons (Try.zeroValue54) ?_
  refine all_cons (Try.zeroValue55) ?_
  refine all_cons (Try.zeroValue56) ?_
  refine all_cons (Try.zeroValue57) ?_
  refine all_cons (Try.zeroValue58) ?_
  refine all_cons (Try.zeroValue59) ?_
  refine all_cons (Try.zeroValue60) ?_
  refine all_cons (Try.zeroValue61) ?_
  refine all_cons (Try.zeroValue62) ?_
  refine all_cons (Try.zeroValue63) ?_
  refine all_cons (Try.zeroValue64) ?_
  refine all_cons (Try.zeroValue65) ?_
  refine all_cons (Try.zeroValue66) ?_
  refine all_cons (Try.zeroValue67) ?_
  refine all_cons (Try.zeroValue68) ?_
  refine all_cons (Try.zeroValue69) ?_
  refine all_cons (Try.zeroValue70) ?_
  refine all_cons (Try.zeroValue71) ?_
  refine all_cons (Try.zeroValue72) ?_
  refine all_cons (Try.zeroValue73) ?_
  refine all_cons (Try.zeroValue74) ?_
  refine all_cons (Try.zeroValue75) ?_
  refine all_cons (Try.zeroValue76) ?_
  refine all_cons (Try.zeroValue77) ?_
  refine all_cons (Try.zeroValue78) ?_
  refine all_cons (Try.zeroValue79) ?_
  refine all_cons (Try.zeroValue80) ?_
  refine all_cons (Try.zeroValue81) ?_
  refine all_cons (Try.zeroValue82) ?_
  refine all_cons (Try.zeroValue83) ?_
  refine all_cons (Try.zeroValue84) ?_
  refine all_cons (Try.zeroValue85) ?_
  refine all_cons (Try.zeroValue86) ?_
  refine all_cons (Try.zeroValue87) ?_
  refine all_cons (Try.zeroValue88) ?_
  refine all_cons (Try.zeroValue89) ?_
  refine all_cons (Try.zeroValue90) ?_
  refine all_cons (Try.zeroValue91) ?_
  refine all_cons (Try.zeroValue92) ?_
  refine all_cons (Try.zeroValue93) ?_
  refine all_cons (Try.zeroValue94) ?_
  refine all_cons (Try.zeroValue95) ?_
  refine all_cons (Try.zeroValue96) ?_
  refine all_cons (Try.zeroValue97) ?_
  refine all_cons (Try.zeroValue98) ?_
  refine all_cons (Try.zeroValue99) ?_
  refine all_cons (Try.zeroValue100) ?_
  refine all_cons (Try.zeroValue101) ?_
  refine all_cons (Try.zeroValue102) ?_
  refine all_cons (Try.zeroValue103) ?_
  refine all_cons (Try.zeroValue104) ?_
  refine all_cons (Try.zeroValue105) ?_
  refine all_cons (Try.zeroValue106) ?_
  refine all_cons (Try.zeroValue107) ?_
  refine all_cons (Try.zeroValue108) ?_
  refine all_cons (Try.zeroValue109) ?_
  refine all_cons (Try.zeroValue110) ?_
  refine all_cons (Try.zeroValue111) ?_
  refine all_cons (Try.zeroValue112) ?_
  refine all_cons (Try.zeroValue113) ?_
  refine all_cons (Try.zeroValue114) ?_
  refine all_cons (Try.zeroValue115) ?_
  refine all_cons (Try.zeroValue116) ?_
  refine all_cons (Try.zeroValue117) ?_
  refine all_cons (Try.zeroValue118) ?_
  refine all_cons (Try.zeroValue119) ?_
  refine all_cons (Try.zeroValue120) ?_
  refine all_cons (Try.zeroValue121) ?_
  refine all_cons (Try.zeroValue122) ?_
  refine all_cons (Try.zeroValue123) ?_
  refine all_cons (Try.zeroValue124) ?_
  refine all_cons (Try.zeroValue125) ?_
  refine all_cons (Try.zeroValue126) ?_
  refine all_cons (Try.zeroValue127) ?_
  refine all_cons (Try.zeroValue128) ?_
  refine all_cons (Try.zeroValue129) ?_
  refine all_cons (Try.zeroValue130) ?_
  refine all_cons (Try.zeroValue131) ?_
  refine all_cons (Try.zeroValue132) ?_
  refine all_cons (Try.zeroValue133) ?_
  refine all_cons (Try.zeroValue134) ?_
  refine all_cons (Try.zeroValue135) ?_
  refine all_cons (Try.zeroValue136) ?_
  refine all_cons (Try.zeroValue137) ?_
  refine all_cons (Try.zeroValue138) ?_
  refine all_cons (Try.zeroValue139) ?_
  refine all_cons (Try.zeroValue140) ?_
  refine all_cons (Try.zeroValue141) ?_
  refine all_cons (Try.zeroValue142) ?_
  refine all_cons (Try.zeroValue143) ?_
  refine all_cons (Try.zeroValue144) ?_
  refine all_cons (Try.zeroValue145) ?_
  refine all_cons (Try.zeroValue146) ?_
  refine all_cons (Try.zeroValue147) ?_
  refine all_cons (Try.zeroValue148) ?_
  refine all_cons (Try.zeroValue149) ?_
  refine all_cons (Try.zeroValue150) ?_
  refine all_cons (Try.zeroValue151) ?_
  refine all_cons (Try.zeroValue152) ?_
  refine all_cons (Try.zeroValue153) ?_
  refine all_cons (Try.zeroValue154) ?_
  refine all_cons (Try.zeroValue155) ?_
  refine all_cons (Try.zeroValue156) ?_
  refine all_cons (Try.zeroValue157) ?_
  exact fun _ h => nomatch h

theorem tok : TabOk Try.prog tab := ⟨tabD_ok, tabS_ok, tabB_ok, tabZ_ok⟩

end Go.Proofs.Ytajllmlgihbdhaa
