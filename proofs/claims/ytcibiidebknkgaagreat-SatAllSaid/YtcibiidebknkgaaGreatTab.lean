/- What is known of the types of this seat: written by a program, off the seat's own facts. -/
import Derived.Test.YtcibiidebknkgaaGreatProg
import Derived.Test.YtcibiidebknkgaaGreatVc
namespace Go.Proofs.YtcibiidebknkgaaGreat
open Go Go.Vc

theorem all_cons {α : Type} {p : α → Prop} {x : α} {l : List α} (h : p x) (r : ∀ y ∈ l, p y) : ∀ y ∈ x :: l, p y := fun y hy => by
  cases hy with
  | head => exact h
  | tail _ hy => exact r y hy

def tabD : List (Nat × TypeDesc) := [(0, Go.TypeDesc.tuple #[]), (1, Go.TypeDesc.func #[] #[] false), (2, Go.TypeDesc.int Go.IntKind.i64), (3, Go.TypeDesc.int Go.IntKind.i64), (4, Go.TypeDesc.bool), (5, Go.TypeDesc.int Go.IntKind.u8), (6, Go.TypeDesc.int Go.IntKind.u8), (7, Go.TypeDesc.struct #[{ name := "x", type := 2, offset := 0, embedded := false, tag := "", pkgPath := "runtime", byteOffset := 0 }, { name := "y", type := 3, offset := 1, embedded := false, tag := "", pkgPath := "runtime", byteOffset := 8 }, { name := "signed", type := 4, offset := 2, embedded := false, tag := "", pkgPath := "runtime", byteOffset := 16 }, { name := "code", type := 6, offset := 3, embedded := false, tag := "", pkgPath := "runtime", byteOffset := 17 }]), (8, Go.TypeDesc.struct #[{ name := "x", type := 2, offset := 0, embedded := false, tag := "", pkgPath := "runtime", byteOffset := 0 }, { name := "y", type := 3, offset := 1, embedded := false, tag := "", pkgPath := "runtime", byteOffset := 8 }, { name := "signed", type := 4, offset := 2, embedded := false, tag := "", pkgPath := "runtime", byteOffset := 16 }, { name := "code", type := 6, offset := 3, embedded := false, tag := "", pkgPath := "runtime", byteOffset := 17 }]), (9, Go.TypeDesc.string), (10, Go.TypeDesc.string), (11, Go.TypeDesc.string), (12, Go.TypeDesc.int Go.IntKind.u64), (13, Go.TypeDesc.struct #[{ name := "msg", type := 9, offset := 0, embedded := false, tag := "", pkgPath := "runtime", byteOffset := 0 }, { name := "addr", type := 12, offset := 1, embedded := false, tag := "", pkgPath := "runtime", byteOffset := 16 }]), (14, Go.TypeDesc.struct #[{ name := "msg", type := 9, offset := 0, embedded := false, tag := "", pkgPath := "runtime", byteOffset := 0 }, { name := "addr", type := 12, offset := 1, embedded := false, tag := "", pkgPath := "runtime", byteOffset := 16 }]), (15, Go.TypeDesc.pointer 192), (16, Go.TypeDesc.pointer 195), (17, Go.TypeDesc.pointer 203), (18, Go.TypeDesc.struct #[{ name := "typ", type := 17, offset := 0, embedded := false, tag := "", pkgPath := "internal/runtime/maps", byteOffset := 0 }]), (19, Go.TypeDesc.struct #[{ name := "typ", type := 17, offset := 0, embedded := false, tag := "", pkgPath := "internal/runtime/maps", byteOffset := 0 }]), (20, Go.TypeDesc.interface #[]), (21, Go.TypeDesc.int Go.IntKind.i32), (22, Go.TypeDesc.pointer 61), (23, Go.TypeDesc.func #[26] #[22] false), (24, Go.TypeDesc.int Go.IntKind.u64), (25, Go.TypeDesc.struct #[{ name := "Seed", type := 24, offset := 0, embedded := false, tag := "", pkgPath := "", byteOffset := 0 }, { name := "Unit", type := 3, offset := 1, embedded := false, tag := "", pkgPath := "", byteOffset := 8 }, { name := "Reduce", type := 3, offset := 2, embedded := false, tag := "", pkgPath := "", byteOffset := 16 }]), (26, Go.TypeDesc.struct #[{ name := "Seed", type := 24, offset := 0, embedded := false, tag := "", pkgPath := "", byteOffset := 0 }, { name := "Unit", type := 3, offset := 1, embedded := false, tag := "", pkgPath := "", byteOffset := 8 }, { name := "Reduce", type := 3, offset := 2, embedded := false, tag := "", pkgPath := "", byteOffset := 16 }]), (27, Go.TypeDesc.int Go.IntKind.i64), (28, Go.TypeDesc.func #[37] #[27] true), (29, Go.TypeDesc.int Go.IntKind.i32), (30, Go.TypeDesc.tuple #[3, 27]), (31, Go.TypeDesc.func #[3, 37] #[3, 27] true), (32, Go.TypeDesc.func #[] #[4] false), (33, Go.TypeDesc.slice 37), (34, Go.TypeDesc.struct #[{ name := "Vars", type := 3, offset := 0, embedded := false, tag := "", pkgPath := "", byteOffset := 0 }, { name := "Clauses", type := 33, offset := 1, embedded := false, tag := "", pkgPath := "", byteOffset := 8 }]), (35, Go.TypeDesc.struct #[{ name := "Vars", type := 3, offset := 0, embedded := false, tag := "", pkgPath := "", byteOffset := 0 }, { name := "Clauses", type := 33, offset := 1, embedded := false, tag := "", pkgPath := "", byteOffset := 8 }]), (36, Go.TypeDesc.array 2 26), (37, Go.TypeDesc.slice 29), (38, Go.TypeDesc.func #[26, 35] #[22] false), (39, Go.TypeDesc.func #[3, 37] #[4] false), (40, Go.TypeDesc.slice 4), (41, Go.TypeDesc.func #[] #[40] false), (42, Go.TypeDesc.tuple #[3, 3]), (43, Go.TypeDesc.func #[35, 40] #[3, 3] false), (44, Go.TypeDesc.func #[] #[37] false), (45, Go.TypeDesc.func #[35, 36, 37] #[4] false), (46, Go.TypeDesc.func #[] #[3] false), (47, Go.TypeDesc.func #[3, 3, 3] #[29] false), (48, Go.TypeDesc.func #[3, 26, 3] #[4] false), (49, Go.TypeDesc.func #[35, 26] #[4] false), (50, Go.TypeDesc.array 2 3), (51, Go.TypeDesc.func #[35, 26, 50] #[4] false), (52, Go.TypeDesc.pointer 81), (53, Go.TypeDesc.func #[3] #[52] false), (54, Go.TypeDesc.pointer 86), (55, Go.TypeDesc.func #[3] #[54] false), (56, Go.TypeDesc.pointer 89), (57, Go.TypeDesc.func #[26] #[56] false), (58, Go.TypeDesc.slice 124), (59, Go.TypeDesc.slice 117), (60, Go.TypeDesc.struct #[{ name := "e", type := 52, offset := 0, embedded := false, tag := "", pkgPath := "lariat/sat", byteOffset := 0 }, { name := "rank", type := 54, offset := 1, embedded := false, tag := "", pkgPath := "lariat/sat", byteOffset := 8 }, { name := "pace", type := 56, offset := 2, embedded := false, tag := "", pkgPath := "lariat/sat", byteOffset := 16 }, { name := "seed", type := 24, offset := 3, embedded := false, tag := "", pkgPath := "lariat/sat", byteOffset := 24 }, { name := "phases", type := 40, offset := 4, embedded := false, tag := "", pkgPath := "lariat/sat", byteOffset := 32 }, { name := "learnt", type := 58, offset := 5, embedded := false, tag := "", pkgPath := "lariat/sat", byteOffset := 56 }, { name := "bump", type := 2, offset := 6, embedded := false, tag := "", pkgPath := "lariat/sat", byteOffset := 80 }, { name := "broken", type := 4, offset := 7, embedded := false, tag := "", pkgPath := "lariat/sat", byteOffset := 88 }, { name := "model", type := 40, offset := 8, embedded := false, tag := "", pkgPath := "lariat/sat", byteOffset := 96 }, { name := "core", type := 37, offset := 9, embedded := false, tag := "", pkgPath := "lariat/sat", byteOffset := 120 }, { name := "log", type := 59, offset := 10, embedded := false, tag := "", pkgPath := "lariat/sat", byteOffset := 144 }, { name := "conflicts", type := 3, offset := 11, embedded := false, tag := "", pkgPath := "lariat/sat", byteOffset := 168 }]), (61, Go.TypeDesc.struct #[{ name := "e", type := 52, offset := 0, embedded := false, tag := "", pkgPath := "lariat/sat", byteOffset := 0 }, { name := "rank", type := 54, offset := 1, embedded := false, tag := "", pkgPath := "lariat/sat", byteOffset := 8 }, { name := "pace", type := 56, offset := 2, embedded := false, tag := "", pkgPath := "lariat/sat", byteOffset := 16 }, { name := "seed", type := 24, offset := 3, embedded := false, tag := "", pkgPath := "lariat/sat", byteOffset := 24 }, { name := "phases", type := 40, offset := 4, embedded := false, tag := "", pkgPath := "lariat/sat", byteOffset := 32 }, { name := "learnt", type := 58, offset := 5, embedded := false, tag := "", pkgPath := "lariat/sat", byteOffset := 56 }, { name := "bump", type := 2, offset := 6, embedded := false, tag := "", pkgPath := "lariat/sat", byteOffset := 80 }, { name := "broken", type := 4, offset := 7, embedded := false, tag := "", pkgPath := "lariat/sat", byteOffset := 88 }, { name := "model", type := 40, offset := 8, embedded := false, tag := "", pkgPath := "lariat/sat", byteOffset := 96 }, { name := "core", type := 37, offset := 9, embedded := false, tag := "", pkgPath := "lariat/sat", byteOffset := 120 }, { name := "log", type := 59, offset := 10, embedded := false, tag := "", pkgPath := "lariat/sat", byteOffset := 144 }, { name := "conflicts", type := 3, offset := 11, embedded := false, tag := "", pkgPath := "lariat/sat", byteOffset := 168 }]), (62, Go.TypeDesc.func #[37] #[3, 27] true), (63, Go.TypeDesc.func #[37] #[4] false), (64, Go.TypeDesc.func #[3, 37] #[3] false), (65, Go.TypeDesc.func #[3] #[] false), (66, Go.TypeDesc.func #[37, 37] #[4] false), (67, Go.TypeDesc.func #[29] #[4] false), (68, Go.TypeDesc.func #[29] #[3] false), (69, Go.TypeDesc.func #[40] #[40] false), (70, Go.TypeDesc.func #[35] #[4] false), (71, Go.TypeDesc.func #[29, 40] #[4] false), (72, Go.TypeDesc.func #[37] #[37] false), (73, Go.TypeDesc.func #[24, 3] #[4] false), (74, Go.TypeDesc.pointer 112), (75, Go.TypeDesc.func #[3] #[74] false), (76, Go.TypeDesc.slice 78), (77, Go.TypeDesc.slice 95), (78, Go.TypeDesc.slice 3), (79, Go.TypeDesc.slice 137), (80, Go.TypeDesc.struct #[{ name := "Trail", type := 74, offset := 0, embedded := true, tag := "", pkgPath := "", byteOffset := 0 }, { name := "clauses", type := 77, offset := 1, embedded := false, tag := "", pkgPath := "lariat/watch", byteOffset := 8 }, { name := "watches", type := 76, offset := 2, embedded := false, tag := "", pkgPath := "lariat/watch", byteOffset := 32 }, { name := "fresh", type := 78, offset := 3, embedded := false, tag := "", pkgPath := "lariat/watch", byteOffset := 56 }, { name := "youngs", type := 79, offset := 4, embedded := false, tag := "", pkgPath := "lariat/watch", byteOffset := 80 }, { name := "head", type := 3, offset := 5, embedded := false, tag := "", pkgPath := "lariat/watch", byteOffset := 104 }]), (81, Go.TypeDesc.struct #[{ name := "Trail", type := 74, offset := 0, embedded := true, tag := "", pkgPath := "", byteOffset := 0 }, { name := "clauses", type := 77, offset := 1, embedded := false, tag := "", pkgPath := "lariat/watch", byteOffset := 8 }, { name := "watches", type := 76, offset := 2, embedded := false, tag := "", pkgPath := "lariat/watch", byteOffset := 32 }, { name := "fresh", type := 78, offset := 3, embedded := false, tag := "", pkgPath := "lariat/watch", byteOffset := 56 }, { name := "youngs", type := 79, offset := 4, embedded := false, tag := "", pkgPath := "lariat/watch", byteOffset := 80 }, { name := "head", type := 3, offset := 5, embedded := false, tag := "", pkgPath := "lariat/watch", byteOffset := 104 }]), (82, Go.TypeDesc.slice 2), (83, Go.TypeDesc.struct #[{ name := "list", type := 78, offset := 0, embedded := false, tag := "", pkgPath := "lariat/rank", byteOffset := 0 }, { name := "place", type := 78, offset := 1, embedded := false, tag := "", pkgPath := "lariat/rank", byteOffset := 24 }, { name := "scores", type := 82, offset := 2, embedded := false, tag := "", pkgPath := "lariat/rank", byteOffset := 48 }]), (84, Go.TypeDesc.struct #[{ name := "list", type := 78, offset := 0, embedded := false, tag := "", pkgPath := "lariat/rank", byteOffset := 0 }, { name := "place", type := 78, offset := 1, embedded := false, tag := "", pkgPath := "lariat/rank", byteOffset := 24 }, { name := "scores", type := 82, offset := 2, embedded := false, tag := "", pkgPath := "lariat/rank", byteOffset := 48 }]), (85, Go.TypeDesc.struct #[{ name := "waiting", type := 84, offset := 0, embedded := false, tag := "", pkgPath := "lariat/rank", byteOffset := 0 }]), (86, Go.TypeDesc.struct #[{ name := "waiting", type := 84, offset := 0, embedded := false, tag := "", pkgPath := "lariat/rank", byteOffset := 0 }]), (87, Go.TypeDesc.func #[3] #[3] false), (88, Go.TypeDesc.struct #[{ name := "unit", type := 3, offset := 0, embedded := false, tag := "", pkgPath := "lariat/pace", byteOffset := 0 }, { name := "reduce", type := 3, offset := 1, embedded := false, tag := "", pkgPath := "lariat/pace", byteOffset := 8 }, { name := "all", type := 3, offset := 2, embedded := false, tag := "", pkgPath := "lariat/pace", byteOffset := 16 }, { name := "since", type := 3, offset := 3, embedded := false, tag := "", pkgPath := "lariat/pace", byteOffset := 24 }, { name := "restarts", type := 3, offset := 4, embedded := false, tag := "", pkgPath := "lariat/pace", byteOffset := 32 }]), (89, Go.TypeDesc.struct #[{ name := "unit", type := 3, offset := 0, embedded := false, tag := "", pkgPath := "lariat/pace", byteOffset := 0 }, { name := "reduce", type := 3, offset := 1, embedded := false, tag := "", pkgPath := "lariat/pace", byteOffset := 8 }, { name := "all", type := 3, offset := 2, embedded := false, tag := "", pkgPath := "lariat/pace", byteOffset := 16 }, { name := "since", type := 3, offset := 3, embedded := false, tag := "", pkgPath := "lariat/pace", byteOffset := 24 }, { name := "restarts", type := 3, offset := 4, embedded := false, tag := "", pkgPath := "lariat/pace", byteOffset := 32 }]), (90, Go.TypeDesc.tuple #[37, 4, 27]), (91, Go.TypeDesc.func #[37] #[37, 4, 27] true), (92, Go.TypeDesc.func #[37, 67] #[4] false), (93, Go.TypeDesc.func #[37] #[] false), (94, Go.TypeDesc.struct #[{ name := "lits", type := 37, offset := 0, embedded := false, tag := "", pkgPath := "lariat/watch", byteOffset := 0 }, { name := "present", type := 4, offset := 1, embedded := false, tag := "", pkgPath := "lariat/watch", byteOffset := 24 }, { name := "idle", type := 4, offset := 2, embedded := false, tag := "", pkgPath := "lariat/watch", byteOffset := 25 }]), (95, Go.TypeDesc.struct #[{ name := "lits", type := 37, offset := 0, embedded := false, tag := "", pkgPath := "lariat/watch", byteOffset := 0 }, { name := "present", type := 4, offset := 1, embedded := false, tag := "", pkgPath := "lariat/watch", byteOffset := 24 }, { name := "idle", type := 4, offset := 2, embedded := false, tag := "", pkgPath := "lariat/watch", byteOffset := 25 }]), (96, Go.TypeDesc.func #[37] #[4] true), (97, Go.TypeDesc.func #[37] #[3] false), (98, Go.TypeDesc.func #[3] #[4] false), (99, Go.TypeDesc.tuple #[29, 4]), (100, Go.TypeDesc.func #[37] #[29, 4] false), (101, Go.TypeDesc.func #[29] #[37] false), (102, Go.TypeDesc.func #[29] #[27] false), (103, Go.TypeDesc.func #[130] #[] false), (104, Go.TypeDesc.func #[130] #[] false), (105, Go.TypeDesc.func #[37] #[104] false), (106, Go.TypeDesc.func #[3] #[27] false), (107, Go.TypeDesc.pointer 84), (108, Go.TypeDesc.func #[139, 20] #[] false), (109, Go.TypeDesc.int Go.IntKind.u64), (110, Go.TypeDesc.slice 132), (111, Go.TypeDesc.struct #[{ name := "marks", type := 110, offset := 0, embedded := false, tag := "", pkgPath := "lariat/trail", byteOffset := 0 }, { name := "list", type := 37, offset := 1, embedded := false, tag := "", pkgPath := "lariat/trail", byteOffset := 24 }, { name := "levels", type := 78, offset := 2, embedded := false, tag := "", pkgPath := "lariat/trail", byteOffset := 48 }]), (112, Go.TypeDesc.struct #[{ name := "marks", type := 110, offset := 0, embedded := false, tag := "", pkgPath := "lariat/trail", byteOffset := 0 }, { name := "list", type := 37, offset := 1, embedded := false, tag := "", pkgPath := "lariat/trail", byteOffset := 24 }, { name := "levels", type := 78, offset := 2, embedded := false, tag := "", pkgPath := "lariat/trail", byteOffset := 48 }]), (113, Go.TypeDesc.func #[37, 114] #[] false), (114, Go.TypeDesc.func #[29, 29] #[3] false), (115, Go.TypeDesc.func #[37, 67] #[3] false), (116, Go.TypeDesc.struct #[{ name := "Gone", type := 4, offset := 0, embedded := false, tag := "", pkgPath := "", byteOffset := 0 }, { name := "Clause", type := 37, offset := 1, embedded := false, tag := "", pkgPath := "", byteOffset := 8 }]), (117, Go.TypeDesc.struct #[{ name := "Gone", type := 4, offset := 0, embedded := false, tag := "", pkgPath := "", byteOffset := 0 }, { name := "Clause", type := 37, offset := 1, embedded := false, tag := "", pkgPath := "", byteOffset := 8 }]), (118, Go.TypeDesc.func #[3] #[29] false), (119, Go.TypeDesc.tuple #[37, 3, 27]), (120, Go.TypeDesc.func #[52, 3] #[37, 3, 27] false), (121, Go.TypeDesc.func #[52, 37] #[3] false), (122, Go.TypeDesc.func #[3, 2] #[27] false), (123, Go.TypeDesc.struct #[{ name := "id", type := 3, offset := 0, embedded := false, tag := "", pkgPath := "lariat/sat", byteOffset := 0 }, { name := "levels", type := 3, offset := 1, embedded := false, tag := "", pkgPath := "lariat/sat", byteOffset := 8 }]), (124, Go.TypeDesc.struct #[{ name := "id", type := 3, offset := 0, embedded := false, tag := "", pkgPath := "lariat/sat", byteOffset := 0 }, { name := "levels", type := 3, offset := 1, embedded := false, tag := "", pkgPath := "lariat/sat", byteOffset := 8 }]), (125, Go.TypeDesc.tuple #[3, 4]), (126, Go.TypeDesc.func #[] #[3, 4] false), (127, Go.TypeDesc.map 3 3), (128, Go.TypeDesc.tuple #[37, 4]), (129, Go.TypeDesc.func #[3] #[37, 4] false), (130, Go.TypeDesc.func #[3, 29] #[4] false), (131, Go.TypeDesc.struct #[{ name := "value", type := 3, offset := 0, embedded := false, tag := "", pkgPath := "lariat/trail", byteOffset := 0 }, { name := "level", type := 3, offset := 1, embedded := false, tag := "", pkgPath := "lariat/trail", byteOffset := 8 }, { name := "reason", type := 3, offset := 2, embedded := false, tag := "", pkgPath := "lariat/trail", byteOffset := 16 }]), (132, Go.TypeDesc.struct #[{ name := "value", type := 3, offset := 0, embedded := false, tag := "", pkgPath := "lariat/trail", byteOffset := 0 }, { name := "level", type := 3, offset := 1, embedded := false, tag := "", pkgPath := "lariat/trail", byteOffset := 8 }, { name := "reason", type := 3, offset := 2, embedded := false, tag := "", pkgPath := "lariat/trail", byteOffset := 16 }]), (133, Go.TypeDesc.func #[3] #[132] false), (134, Go.TypeDesc.tuple #[37, 27]), (135, Go.TypeDesc.func #[3] #[37, 27] false), (136, Go.TypeDesc.struct #[{ name := "id", type := 3, offset := 0, embedded := false, tag := "", pkgPath := "lariat/watch", byteOffset := 0 }, { name := "level", type := 3, offset := 1, embedded := false, tag := "", pkgPath := "lariat/watch", byteOffset := 8 }]), (137, Go.TypeDesc.struct #[{ name := "id", type := 3, offset := 0, embedded := false, tag := "", pkgPath := "lariat/watch", byteOffset := 0 }, { name := "level", type := 3, offset := 1, embedded := false, tag := "", pkgPath := "lariat/watch", byteOffset := 8 }]), (138, Go.TypeDesc.interface #[("Len", 46), ("Less", 163), ("Pop", 179), ("Push", 140), ("Swap", 164)]), (139, Go.TypeDesc.interface #[("Len", 46), ("Less", 163), ("Pop", 179), ("Push", 140), ("Swap", 164)]), (140, Go.TypeDesc.func #[20] #[] false), (141, Go.TypeDesc.func #[139, 3] #[] false), (142, Go.TypeDesc.func #[37, 3, 3, 3, 114] #[] false), (143, Go.TypeDesc.func #[109] #[3] false), (144, Go.TypeDesc.func #[3, 3] #[3] false), (145, Go.TypeDesc.pointer 95), (146, Go.TypeDesc.func #[29, 3] #[27] false), (147, Go.TypeDesc.func #[145, 3, 29] #[4] false), (148, Go.TypeDesc.pointer 150), (149, Go.TypeDesc.struct #[{ name := "e", type := 52, offset := 0, embedded := false, tag := "", pkgPath := "lariat/learn", byteOffset := 0 }, { name := "seen", type := 127, offset := 1, embedded := false, tag := "", pkgPath := "lariat/learn", byteOffset := 8 }, { name := "top", type := 3, offset := 2, embedded := false, tag := "", pkgPath := "lariat/learn", byteOffset := 16 }, { name := "count", type := 3, offset := 3, embedded := false, tag := "", pkgPath := "lariat/learn", byteOffset := 24 }, { name := "rest", type := 37, offset := 4, embedded := false, tag := "", pkgPath := "lariat/learn", byteOffset := 32 }]), (150, Go.TypeDesc.struct #[{ name := "e", type := 52, offset := 0, embedded := false, tag := "", pkgPath := "lariat/learn", byteOffset := 0 }, { name := "seen", type := 127, offset := 1, embedded := false, tag := "", pkgPath := "lariat/learn", byteOffset := 8 }, { name := "top", type := 3, offset := 2, embedded := false, tag := "", pkgPath := "lariat/learn", byteOffset := 16 }, { name := "count", type := 3, offset := 3, embedded := false, tag := "", pkgPath := "lariat/learn", byteOffset := 24 }, { name := "rest", type := 37, offset := 4, embedded := false, tag := "", pkgPath := "lariat/learn", byteOffset := 32 }]), (151, Go.TypeDesc.func #[37, 3] #[] false), (152, Go.TypeDesc.func #[] #[29] false), (153, Go.TypeDesc.func #[139] #[] false), (154, Go.TypeDesc.func #[3] #[3, 27] false), (155, Go.TypeDesc.func #[58, 157] #[] false), (156, Go.TypeDesc.func #[78] #[3] true), (157, Go.TypeDesc.func #[124, 124] #[3] false), (158, Go.TypeDesc.func #[58, 159] #[58] false), (159, Go.TypeDesc.func #[124] #[4] false), (160, Go.TypeDesc.pointer 132), (161, Go.TypeDesc.func #[29] #[160] false), (162, Go.TypeDesc.func #[139] #[20] false), (163, Go.TypeDesc.func #[3, 3] #[4] false), (164, Go.TypeDesc.func #[3, 3] #[] false), (165, Go.TypeDesc.func #[37, 3, 3, 114] #[] false), (166, Go.TypeDesc.int Go.IntKind.i64), (167, Go.TypeDesc.tuple #[3, 166]), (168, Go.TypeDesc.func #[37, 3, 3, 114] #[3, 166] false), (169, Go.TypeDesc.func #[37, 3, 3, 114] #[4] false), (170, Go.TypeDesc.func #[37, 3, 3, 3, 114] #[3] false), (171, Go.TypeDesc.func #[37, 3, 3, 3, 114] #[3, 4] false), (172, Go.TypeDesc.func #[173] #[3] false), (173, Go.TypeDesc.int Go.IntKind.u32), (174, Go.TypeDesc.func #[24] #[3] false), (175, Go.TypeDesc.func #[37, 67] #[37] false), (176, Go.TypeDesc.func #[139, 3, 3] #[4] false), (177, Go.TypeDesc.func #[58, 3, 157] #[] false), (178, Go.TypeDesc.func #[58, 159] #[3] false), (179, Go.TypeDesc.func #[] #[20] false), (180, Go.TypeDesc.int Go.IntKind.u64), (181, Go.TypeDesc.func #[3] #[109] false), (182, Go.TypeDesc.func #[] #[24] false), (183, Go.TypeDesc.func #[37, 3, 184, 114] #[3] false), (184, Go.TypeDesc.pointer 3), (185, Go.TypeDesc.func #[37, 3, 3, 3, 184, 114] #[3] false), (186, Go.TypeDesc.func #[58, 3, 3, 157] #[] false), (187, Go.TypeDesc.func #[58, 3, 3, 3, 157] #[] false), (188, Go.TypeDesc.pointer 180), (189, Go.TypeDesc.func #[37, 3, 3, 184, 114] #[3, 3] false), (190, Go.TypeDesc.func #[] #[9] false), (191, Go.TypeDesc.struct #[{ name := "_interface", type := 17, offset := 0, embedded := false, tag := "", pkgPath := "runtime", byteOffset := 0 }, { name := "concrete", type := 17, offset := 1, embedded := false, tag := "", pkgPath := "runtime", byteOffset := 8 }, { name := "asserted", type := 17, offset := 2, embedded := false, tag := "", pkgPath := "runtime", byteOffset := 16 }, { name := "missingMethod", type := 9, offset := 3, embedded := false, tag := "", pkgPath := "runtime", byteOffset := 24 }]), (192, Go.TypeDesc.struct #[{ name := "_interface", type := 17, offset := 0, embedded := false, tag := "", pkgPath := "runtime", byteOffset := 0 }, { name := "concrete", type := 17, offset := 1, embedded := false, tag := "", pkgPath := "runtime", byteOffset := 8 }, { name := "asserted", type := 17, offset := 2, embedded := false, tag := "", pkgPath := "runtime", byteOffset := 16 }, { name := "missingMethod", type := 9, offset := 3, embedded := false, tag := "", pkgPath := "runtime", byteOffset := 24 }]), (193, Go.TypeDesc.array 0 16), (194, Go.TypeDesc.struct #[{ name := "_", type := 193, offset := 0, embedded := false, tag := "", pkgPath := "runtime", byteOffset := 0 }]), (195, Go.TypeDesc.struct #[{ name := "_", type := 193, offset := 0, embedded := false, tag := "", pkgPath := "runtime", byteOffset := 0 }]), (196, Go.TypeDesc.int Go.IntKind.u8), (197, Go.TypeDesc.int Go.IntKind.u8), (198, Go.TypeDesc.func #[204, 204] #[4] false), (199, Go.TypeDesc.pointer 5), (200, Go.TypeDesc.int Go.IntKind.i32), (201, Go.TypeDesc.int Go.IntKind.i32), (202, Go.TypeDesc.struct #[{ name := "Size_", type := 12, offset := 0, embedded := false, tag := "", pkgPath := "", byteOffset := 0 }, { name := "PtrBytes", type := 12, offset := 1, embedded := false, tag := "", pkgPath := "", byteOffset := 8 }, { name := "Hash", type := 173, offset := 2, embedded := false, tag := "", pkgPath := "", byteOffset := 16 }, { name := "TFlag", type := 196, offset := 3, embedded := false, tag := "", pkgPath := "", byteOffset := 20 }, { name := "Align_", type := 5, offset := 4, embedded := false, tag := "", pkgPath := "", byteOffset := 21 }, { name := "FieldAlign_", type := 5, offset := 5, embedded := false, tag := "", pkgPath := "", byteOffset := 22 }, { name := "Kind_", type := 197, offset := 6, embedded := false, tag := "", pkgPath := "", byteOffset := 23 }, { name := "Equal", type := 198, offset := 7, embedded := false, tag := "", pkgPath := "", byteOffset := 24 }, { name := "GCData", type := 199, offset := 8, embedded := false, tag := "", pkgPath := "", byteOffset := 32 }, { name := "Str", type := 200, offset := 9, embedded := false, tag := "", pkgPath := "", byteOffset := 40 }, { name := "PtrToThis", type := 201, offset := 10, embedded := false, tag := "", pkgPath := "", byteOffset := 44 }]), (203, Go.TypeDesc.struct #[{ name := "Size_", type := 12, offset := 0, embedded := false, tag := "", pkgPath := "", byteOffset := 0 }, { name := "PtrBytes", type := 12, offset := 1, embedded := false, tag := "", pkgPath := "", byteOffset := 8 }, { name := "Hash", type := 173, offset := 2, embedded := false, tag := "", pkgPath := "", byteOffset := 16 }, { name := "TFlag", type := 196, offset := 3, embedded := false, tag := "", pkgPath := "", byteOffset := 20 }, { name := "Align_", type := 5, offset := 4, embedded := false, tag := "", pkgPath := "", byteOffset := 21 }, { name := "FieldAlign_", type := 5, offset := 5, embedded := false, tag := "", pkgPath := "", byteOffset := 22 }, { name := "Kind_", type := 197, offset := 6, embedded := false, tag := "", pkgPath := "", byteOffset := 23 }, { name := "Equal", type := 198, offset := 7, embedded := false, tag := "", pkgPath := "", byteOffset := 24 }, { name := "GCData", type := 199, offset := 8, embedded := false, tag := "", pkgPath := "", byteOffset := 32 }, { name := "Str", type := 200, offset := 9, embedded := false, tag := "", pkgPath := "", byteOffset := 40 }, { name := "PtrToThis", type := 201, offset := 10, embedded := false, tag := "", pkgPath := "", byteOffset := 44 }]), (204, Go.TypeDesc.unsafePointer)]
def tabS : List (Nat × Nat) := [(0, 1), (1, 1), (2, 1), (3, 1), (4, 1), (5, 1), (6, 1), (7, 4), (8, 4), (9, 1), (10, 1), (11, 1), (12, 1), (13, 2), (14, 2), (15, 1), (16, 1), (17, 1), (18, 1), (19, 1), (20, 1), (21, 1), (22, 1), (23, 1), (24, 1), (25, 3), (26, 3), (27, 1), (28, 1), (29, 1), (30, 1), (31, 1), (32, 1), (33, 1), (34, 2), (35, 2), (36, 6), (37, 1), (38, 1), (39, 1), (40, 1), (41, 1), (42, 1), (43, 1), (44, 1), (45, 1), (46, 1), (47, 1), (48, 1), (49, 1), (50, 2), (51, 1), (52, 1), (53, 1), (54, 1), (55, 1), (56, 1), (57, 1), (58, 1), (59, 1), (60, 12), (61, 12), (62, 1), (63, 1), (64, 1), (65, 1), (66, 1), (67, 1), (68, 1), (69, 1), (70, 1), (71, 1), (72, 1), (73, 1), (74, 1), (75, 1), (76, 1), (77, 1), (78, 1), (79, 1), (80, 6), (81, 6), (82, 1), (83, 3), (84, 3), (85, 3), (86, 3), (87, 1), (88, 5), (89, 5), (90, 1), (91, 1), (92, 1), (93, 1), (94, 3), (95, 3), (96, 1), (97, 1), (98, 1), (99, 1), (100, 1), (101, 1), (102, 1), (103, 1), (104, 1), (105, 1), (106, 1), (107, 1), (108, 1), (109, 1), (110, 1), (111, 3), (112, 3), (113, 1), (114, 1), (115, 1), (116, 2), (117, 2), (118, 1), (119, 1), (120, 1), (121, 1), (122, 1), (123, 2), (124, 2), (125, 1), (126, 1), (127, 1), (128, 1), (129, 1), (130, 1), (131, 3), (132, 3), (133, 1), (134, 1), (135, 1), (136, 2), (137, 2), (138, 1), (139, 1), (140, 1), (141, 1), (142, 1), (143, 1), (144, 1), (145, 1), (146, 1), (147, 1), (148, 1), (149, 5), (150, 5), (151, 1), (152, 1), (153, 1), (154, 1), (155, 1), (156, 1), (157, 1), (158, 1), (159, 1), (160, 1), (161, 1), (162, 1), (163, 1), (164, 1), (165, 1), (166, 1), (167, 1), (168, 1), (169, 1), (170, 1), (171, 1), (172, 1), (173, 1), (174, 1), (175, 1), (176, 1), (177, 1), (178, 1), (179, 1), (180, 1), (181, 1), (182, 1), (183, 1), (184, 1), (185, 1), (186, 1), (187, 1), (188, 1), (189, 1), (190, 1), (191, 4), (192, 4), (193, 0), (194, 0), (195, 0), (196, 1), (197, 1), (198, 1), (199, 1), (200, 1), (201, 1), (202, 11), (203, 11), (204, 1)]
def tabB : List (Nat × Nat) := [(0, 0), (1, 8), (2, 8), (3, 8), (4, 1), (5, 1), (6, 1), (7, 24), (8, 24), (9, 16), (10, 16), (11, 16), (12, 8), (13, 24), (14, 24), (15, 8), (16, 8), (17, 8), (18, 8), (19, 8), (20, 16), (21, 4), (22, 8), (23, 8), (24, 8), (25, 24), (26, 24), (27, 8), (28, 8), (29, 4), (30, 0), (31, 8), (32, 8), (33, 24), (34, 32), (35, 32), (36, 48), (37, 24), (38, 8), (39, 8), (40, 24), (41, 8), (42, 0), (43, 8), (44, 8), (45, 8), (46, 8), (47, 8), (48, 8), (49, 8), (50, 16), (51, 8), (52, 8), (53, 8), (54, 8), (55, 8), (56, 8), (57, 8), (58, 24), (59, 24), (60, 176), (61, 176), (62, 8), (63, 8), (64, 8), (65, 8), (66, 8), (67, 8), (68, 8), (69, 8), (70, 8), (71, 8), (72, 8), (73, 8), (74, 8), (75, 8), (76, 24), (77, 24), (78, 24), (79, 24), (80, 112), (81, 112), (82, 24), (83, 72), (84, 72), (85, 72), (86, 72), (87, 8), (88, 40), (89, 40), (90, 0), (91, 8), (92, 8), (93, 8), (94, 32), (95, 32), (96, 8), (97, 8), (98, 8), (99, 0), (100, 8), (101, 8), (102, 8), (103, 8), (104, 8), (105, 8), (106, 8), (107, 8), (108, 8), (109, 8), (110, 24), (111, 72), (112, 72), (113, 8), (114, 8), (115, 8), (116, 32), (117, 32), (118, 8), (119, 0), (120, 8), (121, 8), (122, 8), (123, 16), (124, 16), (125, 0), (126, 8), (127, 8), (128, 0), (129, 8), (130, 8), (131, 24), (132, 24), (133, 8), (134, 0), (135, 8), (136, 16), (137, 16), (138, 16), (139, 16), (140, 8), (141, 8), (142, 8), (143, 8), (144, 8), (145, 8), (146, 8), (147, 8), (148, 8), (149, 56), (150, 56), (151, 8), (152, 8), (153, 8), (154, 8), (155, 8), (156, 8), (157, 8), (158, 8), (159, 8), (160, 8), (161, 8), (162, 8), (163, 8), (164, 8), (165, 8), (166, 8), (167, 0), (168, 8), (169, 8), (170, 8), (171, 8), (172, 8), (173, 4), (174, 8), (175, 8), (176, 8), (177, 8), (178, 8), (179, 8), (180, 8), (181, 8), (182, 8), (183, 8), (184, 8), (185, 8), (186, 8), (187, 8), (188, 8), (189, 8), (190, 8), (191, 40), (192, 40), (193, 0), (194, 0), (195, 0), (196, 1), (197, 1), (198, 8), (199, 8), (200, 4), (201, 4), (202, 48), (203, 48), (204, 8)]
def tabZ : List (Nat × Value) := [(0, (Go.Value.tuple #[])), (1, Go.Value.nilFunc), (2, (Go.Value.int Go.IntKind.i64 0)), (3, (Go.Value.int Go.IntKind.i64 0)), (4, (Go.Value.bool false)), (5, (Go.Value.int Go.IntKind.u8 0)), (6, (Go.Value.int Go.IntKind.u8 0)), (7, (Go.Value.agg #[Go.Value.int Go.IntKind.i64 0, Go.Value.int Go.IntKind.i64 0, Go.Value.bool false, Go.Value.int Go.IntKind.u8 0])), (8, (Go.Value.agg #[Go.Value.int Go.IntKind.i64 0, Go.Value.int Go.IntKind.i64 0, Go.Value.bool false, Go.Value.int Go.IntKind.u8 0])), (9, (Go.Value.string { data := #[] })), (10, (Go.Value.string { data := #[] })), (11, (Go.Value.string { data := #[] })), (12, (Go.Value.int Go.IntKind.u64 0)), (13, (Go.Value.agg #[Go.Value.string { data := #[] }, Go.Value.int Go.IntKind.u64 0])), (14, (Go.Value.agg #[Go.Value.string { data := #[] }, Go.Value.int Go.IntKind.u64 0])), (15, (Go.Value.pointer none)), (16, (Go.Value.pointer none)), (17, (Go.Value.pointer none)), (18, (Go.Value.agg #[Go.Value.pointer none])), (19, (Go.Value.agg #[Go.Value.pointer none])), (20, Go.Value.nilIface), (21, (Go.Value.int Go.IntKind.i32 0)), (22, (Go.Value.pointer none)), (23, Go.Value.nilFunc), (24, (Go.Value.int Go.IntKind.u64 0)), (25, (Go.Value.agg #[Go.Value.int Go.IntKind.u64 0, Go.Value.int Go.IntKind.i64 0, Go.Value.int Go.IntKind.i64 0])), (26, (Go.Value.agg #[Go.Value.int Go.IntKind.u64 0, Go.Value.int Go.IntKind.i64 0, Go.Value.int Go.IntKind.i64 0])), (27, (Go.Value.int Go.IntKind.i64 0)), (28, Go.Value.nilFunc), (29, (Go.Value.int Go.IntKind.i32 0)), (30, (Go.Value.tuple #[Go.Value.int Go.IntKind.i64 0, Go.Value.int Go.IntKind.i64 0])), (31, Go.Value.nilFunc), (32, Go.Value.nilFunc), (33, (Go.Value.slice none 0 0)), (34, (Go.Value.agg #[Go.Value.int Go.IntKind.i64 0, Go.Value.slice none 0 0])), (35, (Go.Value.agg #[Go.Value.int Go.IntKind.i64 0, Go.Value.slice none 0 0])), (36, (Go.Value.agg #[Go.Value.int Go.IntKind.u64 0, Go.Value.int Go.IntKind.i64 0, Go.Value.int Go.IntKind.i64 0, Go.Value.int Go.IntKind.u64 0, Go.Value.int Go.IntKind.i64 0, Go.Value.int Go.IntKind.i64 0])), (37, (Go.Value.slice none 0 0)), (38, Go.Value.nilFunc), (39, Go.Value.nilFunc), (40, (Go.Value.slice none 0 0)), (41, Go.Value.nilFunc), (42, (Go.Value.tuple #[Go.Value.int Go.IntKind.i64 0, Go.Value.int Go.IntKind.i64 0])), (43, Go.Value.nilFunc), (44, Go.Value.nilFunc), (45, Go.Value.nilFunc), (46, Go.Value.nilFunc), (47, Go.Value.nilFunc), (48, Go.Value.nilFunc), (49, Go.Value.nilFunc), (50, (Go.Value.agg #[Go.Value.int Go.IntKind.i64 0, Go.Value.int Go.IntKind.i64 0])), (51, Go.Value.nilFunc), (52, (Go.Value.pointer none)), (53, Go.Value.nilFunc), (54, (Go.Value.pointer none)), (55, Go.Value.nilFunc), (56, (Go.Value.pointer none)), (57, Go.Value.nilFunc), (58, (Go.Value.slice none 0 0)), (59, (Go.Value.slice none 0 0)), (60, (Go.Value.agg #[Go.Value.pointer none, Go.Value.pointer none, Go.Value.pointer none, Go.Value.int Go.IntKind.u64 0, Go.Value.slice none 0 0, Go.Value.slice none 0 0, Go.Value.int Go.IntKind.i64 0, Go.Value.bool false, Go.Value.slice none 0 0, Go.Value.slice none 0 0, Go.Value.slice none 0 0, Go.Value.int Go.IntKind.i64 0])), (61, (Go.Value.agg #[Go.Value.pointer none, Go.Value.pointer none, Go.Value.pointer none, Go.Value.int Go.IntKind.u64 0, Go.Value.slice none 0 0, Go.Value.slice none 0 0, Go.Value.int Go.IntKind.i64 0, Go.Value.bool false, Go.Value.slice none 0 0, Go.Value.slice none 0 0, Go.Value.slice none 0 0, Go.Value.int Go.IntKind.i64 0])), (62, Go.Value.nilFunc), (63, Go.Value.nilFunc), (64, Go.Value.nilFunc), (65, Go.Value.nilFunc), (66, Go.Value.nilFunc), (67, Go.Value.nilFunc), (68, Go.Value.nilFunc), (69, Go.Value.nilFunc), (70, Go.Value.nilFunc), (71, Go.Value.nilFunc), (72, Go.Value.nilFunc), (73, Go.Value.nilFunc), (74, (Go.Value.pointer none)), (75, Go.Value.nilFunc), (76, (Go.Value.slice none 0 0)), (77, (Go.Value.slice none 0 0)), (78, (Go.Value.slice none 0 0)), (79, (Go.Value.slice none 0 0)), (80, (Go.Value.agg #[Go.Value.pointer none, Go.Value.slice none 0 0, Go.Value.slice none 0 0, Go.Value.slice none 0 0, Go.Value.slice none 0 0, Go.Value.int Go.IntKind.i64 0])), (81, (Go.Value.agg #[Go.Value.pointer none, Go.Value.slice none 0 0, Go.Value.slice none 0 0, Go.Value.slice none 0 0, Go.Value.slice none 0 0, Go.Value.int Go.IntKind.i64 0])), (82, (Go.Value.slice none 0 0)), (83, (Go.Value.agg #[Go.Value.slice none 0 0, Go.Value.slice none 0 0, Go.Value.slice none 0 0])), (84, (Go.Value.agg #[Go.Value.slice none 0 0, Go.Value.slice none 0 0, Go.Value.slice none 0 0])), (85, (Go.Value.agg #[Go.Value.slice none 0 0, Go.Value.slice none 0 0, Go.Value.slice none 0 0])), (86, (Go.Value.agg #[Go.Value.slice none 0 0, Go.Value.slice none 0 0, Go.Value.slice none 0 0])), (87, Go.Value.nilFunc), (88, (Go.Value.agg #[Go.Value.int Go.IntKind.i64 0, Go.Value.int Go.IntKind.i64 0, Go.Value.int Go.IntKind.i64 0, Go.Value.int Go.IntKind.i64 0, Go.Value.int Go.IntKind.i64 0])), (89, (Go.Value.agg #[Go.Value.int Go.IntKind.i64 0, Go.Value.int Go.IntKind.i64 0, Go.Value.int Go.IntKind.i64 0, Go.Value.int Go.IntKind.i64 0, Go.Value.int Go.IntKind.i64 0])), (90, (Go.Value.tuple #[Go.Value.slice none 0 0, Go.Value.bool false, Go.Value.int Go.IntKind.i64 0])), (91, Go.Value.nilFunc), (92, Go.Value.nilFunc), (93, Go.Value.nilFunc), (94, (Go.Value.agg #[Go.Value.slice none 0 0, Go.Value.bool false, Go.Value.bool false])), (95, (Go.Value.agg #[Go.Value.slice none 0 0, Go.Value.bool false, Go.Value.bool false])), (96, Go.Value.nilFunc), (97, Go.Value.nilFunc), (98, Go.Value.nilFunc), (99, (Go.Value.tuple #[Go.Value.int Go.IntKind.i32 0, Go.Value.bool false])), (100, Go.Value.nilFunc), (101, Go.Value.nilFunc), (102, Go.Value.nilFunc), (103, Go.Value.nilFunc), (104, Go.Value.nilFunc), (105, Go.Value.nilFunc), (106, Go.Value.nilFunc), (107, (Go.Value.pointer none)), (108, Go.Value.nilFunc), (109, (Go.Value.int Go.IntKind.u64 0)), (110, (Go.Value.slice none 0 0)), (111, (Go.Value.agg #[Go.Value.slice none 0 0, Go.Value.slice none 0 0, Go.Value.slice none 0 0])), (112, (Go.Value.agg #[Go.Value.slice none 0 0, Go.Value.slice none 0 0, Go.Value.slice none 0 0])), (113, Go.Value.nilFunc), (114, Go.Value.nilFunc), (115, Go.Value.nilFunc), (116, (Go.Value.agg #[Go.Value.bool false, Go.Value.slice none 0 0])), (117, (Go.Value.agg #[Go.Value.bool false, Go.Value.slice none 0 0])), (118, Go.Value.nilFunc), (119, (Go.Value.tuple #[Go.Value.slice none 0 0, Go.Value.int Go.IntKind.i64 0, Go.Value.int Go.IntKind.i64 0])), (120, Go.Value.nilFunc), (121, Go.Value.nilFunc), (122, Go.Value.nilFunc), (123, (Go.Value.agg #[Go.Value.int Go.IntKind.i64 0, Go.Value.int Go.IntKind.i64 0])), (124, (Go.Value.agg #[Go.Value.int Go.IntKind.i64 0, Go.Value.int Go.IntKind.i64 0])), (125, (Go.Value.tuple #[Go.Value.int Go.IntKind.i64 0, Go.Value.bool false])), (126, Go.Value.nilFunc), (127, (Go.Value.map none)), (128, (Go.Value.tuple #[Go.Value.slice none 0 0, Go.Value.bool false])), (129, Go.Value.nilFunc), (130, Go.Value.nilFunc), (131, (Go.Value.agg #[Go.Value.int Go.IntKind.i64 0, Go.Value.int Go.IntKind.i64 0, Go.Value.int Go.IntKind.i64 0])), (132, (Go.Value.agg #[Go.Value.int Go.IntKind.i64 0, Go.Value.int Go.IntKind.i64 0, Go.Value.int Go.IntKind.i64 0])), (133, Go.Value.nilFunc), (134, (Go.Value.tuple #[Go.Value.slice none 0 0, Go.Value.int Go.IntKind.i64 0])), (135, Go.Value.nilFunc), (136, (Go.Value.agg #[Go.Value.int Go.IntKind.i64 0, Go.Value.int Go.IntKind.i64 0])), (137, (Go.Value.agg #[Go.Value.int Go.IntKind.i64 0, Go.Value.int Go.IntKind.i64 0])), (138, Go.Value.nilIface), (139, Go.Value.nilIface), (140, Go.Value.nilFunc), (141, Go.Value.nilFunc), (142, Go.Value.nilFunc), (143, Go.Value.nilFunc), (144, Go.Value.nilFunc), (145, (Go.Value.pointer none)), (146, Go.Value.nilFunc), (147, Go.Value.nilFunc), (148, (Go.Value.pointer none)), (149, (Go.Value.agg #[Go.Value.pointer none, Go.Value.map none, Go.Value.int Go.IntKind.i64 0, Go.Value.int Go.IntKind.i64 0, Go.Value.slice none 0 0])), (150, (Go.Value.agg #[Go.Value.pointer none, Go.Value.map none, Go.Value.int Go.IntKind.i64 0, Go.Value.int Go.IntKind.i64 0, Go.Value.slice none 0 0])), (151, Go.Value.nilFunc), (152, Go.Value.nilFunc), (153, Go.Value.nilFunc), (154, Go.Value.nilFunc), (155, Go.Value.nilFunc), (156, Go.Value.nilFunc), (157, Go.Value.nilFunc), (158, Go.Value.nilFunc), (159, Go.Value.nilFunc), (160, (Go.Value.pointer none)), (161, Go.Value.nilFunc), (162, Go.Value.nilFunc), (163, Go.Value.nilFunc), (164, Go.Value.nilFunc), (165, Go.Value.nilFunc), (166, (Go.Value.int Go.IntKind.i64 0)), (167, (Go.Value.tuple #[Go.Value.int Go.IntKind.i64 0, Go.Value.int Go.IntKind.i64 0])), (168, Go.Value.nilFunc), (169, Go.Value.nilFunc), (170, Go.Value.nilFunc), (171, Go.Value.nilFunc), (172, Go.Value.nilFunc), (173, (Go.Value.int Go.IntKind.u32 0)), (174, Go.Value.nilFunc), (175, Go.Value.nilFunc), (176, Go.Value.nilFunc), (177, Go.Value.nilFunc), (178, Go.Value.nilFunc), (179, Go.Value.nilFunc), (180, (Go.Value.int Go.IntKind.u64 0)), (181, Go.Value.nilFunc), (182, Go.Value.nilFunc), (183, Go.Value.nilFunc), (184, (Go.Value.pointer none)), (185, Go.Value.nilFunc), (186, Go.Value.nilFunc), (187, Go.Value.nilFunc), (188, (Go.Value.pointer none)), (189, Go.Value.nilFunc), (190, Go.Value.nilFunc), (191, (Go.Value.agg #[Go.Value.pointer none, Go.Value.pointer none, Go.Value.pointer none, Go.Value.string { data := #[] }])), (192, (Go.Value.agg #[Go.Value.pointer none, Go.Value.pointer none, Go.Value.pointer none, Go.Value.string { data := #[] }])), (193, (Go.Value.agg #[])), (194, (Go.Value.agg #[])), (195, (Go.Value.agg #[])), (196, (Go.Value.int Go.IntKind.u8 0)), (197, (Go.Value.int Go.IntKind.u8 0)), (198, Go.Value.nilFunc), (199, (Go.Value.pointer none)), (200, (Go.Value.int Go.IntKind.i32 0)), (201, (Go.Value.int Go.IntKind.i32 0)), (202, (Go.Value.agg #[Go.Value.int Go.IntKind.u64 0, Go.Value.int Go.IntKind.u64 0, Go.Value.int Go.IntKind.u32 0, Go.Value.int Go.IntKind.u8 0, Go.Value.int Go.IntKind.u8 0, Go.Value.int Go.IntKind.u8 0, Go.Value.int Go.IntKind.u8 0, Go.Value.nilFunc, Go.Value.pointer none, Go.Value.int Go.IntKind.i32 0, Go.Value.int Go.IntKind.i32 0])), (203, (Go.Value.agg #[Go.Value.int Go.IntKind.u64 0, Go.Value.int Go.IntKind.u64 0, Go.Value.int Go.IntKind.u32 0, Go.Value.int Go.IntKind.u8 0, Go.Value.int Go.IntKind.u8 0, Go.Value.int Go.IntKind.u8 0, Go.Value.int Go.IntKind.u8 0, Go.Value.nilFunc, Go.Value.pointer none, Go.Value.int Go.IntKind.i32 0, Go.Value.int Go.IntKind.i32 0])), (204, (Go.Value.pointer none))]
def tab : Tab := ⟨tabD, tabS, tabB, tabZ⟩

theorem tabD_ok : ∀ x ∈ tabD, Tryz.prog.underlying x.1 = some x.2 := by
  refine all_cons (Tryz.underlying0) ?_
  refine all_cons (Tryz.underlying1) ?_
  refine all_cons (Tryz.underlying2) ?_
  refine all_cons (Tryz.underlying3) ?_
  refine all_cons (Tryz.underlying4) ?_
  refine all_cons (Tryz.underlying5) ?_
  refine all_cons (Tryz.underlying6) ?_
  refine all_cons (Tryz.underlying7) ?_
  refine all_cons (Tryz.underlying8) ?_
  refine all_cons (Tryz.underlying9) ?_
  refine all_cons (Tryz.underlying10) ?_
  refine all_cons (Tryz.underlying11) ?_
  refine all_cons (Tryz.underlying12) ?_
  refine all_cons (Tryz.underlying13) ?_
  refine all_cons (Tryz.underlying14) ?_
  refine all_cons (Tryz.underlying15) ?_
  refine all_cons (Tryz.underlying16) ?_
  refine all_cons (Tryz.underlying17) ?_
  refine all_cons (Tryz.underlying18) ?_
  refine all_cons (Tryz.underlying19) ?_
  refine all_cons (Tryz.underlying20) ?_
  refine all_cons (Tryz.underlying21) ?_
  refine all_cons (Tryz.underlying22) ?_
  refine all_cons (Tryz.underlying23) ?_
  refine all_cons (Tryz.underlying24) ?_
  refine all_cons (Tryz.underlying25) ?_
  refine all_cons (Tryz.underlying26) ?_
  refine all_cons (Tryz.underlying27) ?_
  refine all_cons (Tryz.underlying28) ?_
  refine all_cons (Tryz.underlying29) ?_
  refine all_cons (Tryz.underlying30) ?_
  refine all_cons (Tryz.underlying31) ?_
  refine all_cons (Tryz.underlying32) ?_
  refine all_cons (Tryz.underlying33) ?_
  refine all_cons (Tryz.underlying34) ?_
  refine all_cons (Tryz.underlying35) ?_
  refine all_cons (Tryz.underlying36) ?_
  refine all_cons (Tryz.underlying37) ?_
  refine all_cons (Tryz.underlying38) ?_
  refine all_cons (Tryz.underlying39) ?_
  refine all_cons (Tryz.underlying40) ?_
  refine all_cons (Tryz.underlying41) ?_
  refine all_cons (Tryz.underlying42) ?_
  refine all_cons (Tryz.underlying43) ?_
  refine all_cons (Tryz.underlying44) ?_
  refine all_cons (Tryz.underlying45) ?_
  refine all_cons (Tryz.underlying46) ?_
  refine all_cons (Tryz.underlying47) ?_
  refine all_cons (Tryz.underlying48) ?_
  refine all_cons (Tryz.underlying49) ?_
  refine all_cons (Tryz.underlying50) ?_
  refine all_cons (Tryz.underlying51) ?_
  refine all_cons (Tryz.underlying52) ?_
  refine all_cons (Tryz.underlying53) ?_
  refine all_cons (Tryz.underlying54) ?_
  refine all_cons (Tryz.underlying55) ?_
  refine all_cons (Tryz.underlying56) ?_
  refine all_cons (Tryz.underlying57) ?_
  refine all_cons (Tryz.underlying58) ?_
  refine all_cons (Tryz.underlying59) ?_
  refine all_cons (Tryz.underlying60) ?_
  refine all_cons (Tryz.underlying61) ?_
  refine all_cons (Tryz.underlying62) ?_
  refine all_cons (Tryz.underlying63) ?_
  refine all_cons (Tryz.underlying64) ?_
  refine all_cons (Tryz.underlying65) ?_
  refine all_cons (Tryz.underlying66) ?_
  refine all_cons (Tryz.underlying67) ?_
  refine all_cons (Tryz.underlying68) ?_
  refine all_cons (Tryz.underlying69) ?_
  refine all_cons (Tryz.underlying70) ?_
  refine all_cons (Tryz.underlying71) ?_
  refine all_cons (Tryz.underlying72) ?_
  refine all_cons (Tryz.underlying73) ?_
  refine all_cons (Tryz.underlying74) ?_
  refine all_cons (Tryz.underlying75) ?_
  refine all_cons (Tryz.underlying76) ?_
  refine all_cons (Tryz.underlying77) ?_
  refine all_cons (Tryz.underlying78) ?_
  refine all_cons (Tryz.underlying79) ?_
  refine all_cons (Tryz.underlying80) ?_
  refine all_cons (Tryz.underlying81) ?_
  refine all_cons (Tryz.underlying82) ?_
  refine all_cons (Tryz.underlying83) ?_
  refine all_cons (Tryz.underlying84) ?_
  refine all_cons (Tryz.underlying85) ?_
  refine all_cons (Tryz.underlying86) ?_
  refine all_cons (Tryz.underlying87) ?_
  refine all_cons (Tryz.underlying88) ?_
  refine all_cons (Tryz.underlying89) ?_
  refine all_cons (Tryz.underlying90) ?_
  refine all_cons (Tryz.underlying91) ?_
  refine all_cons (Tryz.underlying92) ?_
  refine all_cons (Tryz.underlying93) ?_
  refine all_cons (Tryz.underlying94) ?_
  refine all_cons (Tryz.underlying95) ?_
  refine all_cons (Tryz.underlying96) ?_
  refine all_cons (Tryz.underlying97) ?_
  refine all_cons (Tryz.underlying98) ?_
  refine all_cons (Tryz.underlying99) ?_
  refine all_cons (Tryz.underlying100) ?_
  refine all_cons (Tryz.underlying101) ?_
  refine all_cons (Tryz.underlying102) ?_
  refine all_cons (Tryz.underlying103) ?_
  refine all_cons (Tryz.underlying104) ?_
  refine all_cons (Tryz.underlying105) ?_
  refine all_cons (Tryz.underlying106) ?_
  refine all_cons (Tryz.underlying107) ?_
  refine all_cons (Tryz.underlying108) ?_
  refine all_cons (Tryz.underlying109) ?_
  refine all_cons (Tryz.underlying110) ?_
  refine all_cons (Tryz.underlying111) ?_
  refine all_cons (Tryz.underlying112) ?_
  refine all_cons (Tryz.underlying113) ?_
  refine all_cons (Tryz.underlying114) ?_
  refine all_cons (Tryz.underlying115) ?_
  refine all_cons (Tryz.underlying116) ?_
  refine all_cons (Tryz.underlying117) ?_
  refine all_cons (Tryz.underlying118) ?_
  refine all_cons (Tryz.underlying119) ?_
  refine all_cons (Tryz.underlying120) ?_
  refine all_cons (Tryz.underlying121) ?_
  refine all_cons (Tryz.underlying122) ?_
  refine all_cons (Tryz.underlying123) ?_
  refine all_cons (Tryz.underlying124) ?_
  refine all_cons (Tryz.underlying125) ?_
  refine all_cons (Tryz.underlying126) ?_
  refine all_cons (Tryz.underlying127) ?_
  refine all_cons (Tryz.underlying128) ?_
  refine all_cons (Tryz.underlying129) ?_
  refine all_cons (Tryz.underlying130) ?_
  refine all_cons (Tryz.underlying131) ?_
  refine all_cons (Tryz.underlying132) ?_
  refine all_cons (Tryz.underlying133) ?_
  refine all_cons (Tryz.underlying134) ?_
  refine all_cons (Tryz.underlying135) ?_
  refine all_cons (Tryz.underlying136) ?_
  refine all_cons (Tryz.underlying137) ?_
  refine all_cons (Tryz.underlying138) ?_
  refine all_cons (Tryz.underlying139) ?_
  refine all_cons (Tryz.underlying140) ?_
  refine all_cons (Tryz.underlying141) ?_
  refine all_cons (Tryz.underlying142) ?_
  refine all_cons (Tryz.underlying143) ?_
  refine all_cons (Tryz.underlying144) ?_
  refine all_cons (Tryz.underlying145) ?_
  refine all_cons (Tryz.underlying146) ?_
  refine all_cons (Tryz.underlying147) ?_
  refine all_cons (Tryz.underlying148) ?_
  refine all_cons (Tryz.underlying149) ?_
  refine all_cons (Tryz.underlying150) ?_
  refine all_cons (Tryz.underlying151) ?_
  refine all_cons (Tryz.underlying152) ?_
  refine all_cons (Tryz.underlying153) ?_
  refine all_cons (Tryz.underlying154) ?_
  refine all_cons (Tryz.underlying155) ?_
  refine all_cons (Tryz.underlying156) ?_
  refine all_cons (Tryz.underlying157) ?_
  refine all_cons (Tryz.underlying158) ?_
  refine all_cons (Tryz.underlying159) ?_
  refine all_cons (Tryz.underlying160) ?_
  refine all_cons (Tryz.underlying161) ?_
  refine all_cons (Tryz.underlying162) ?_
  refine all_cons (Tryz.underlying163) ?_
  refine all_cons (Tryz.underlying164) ?_
  refine all_cons (Tryz.underlying165) ?_
  refine all_cons (Tryz.underlying166) ?_
  refine all_cons (Tryz.underlying167) ?_
  refine all_cons (Tryz.underlying168) ?_
  refine all_cons (Tryz.underlying169) ?_
  refine all_cons (Tryz.underlying170) ?_
  refine all_cons (Tryz.underlying171) ?_
  refine all_cons (Tryz.underlying172) ?_
  refine all_cons (Tryz.underlying173) ?_
  refine all_cons (Tryz.underlying174) ?_
  refine all_cons (Tryz.underlying175) ?_
  refine all_cons (Tryz.underlying176) ?_
  refine all_cons (Tryz.underlying177) ?_
  refine all_cons (Tryz.underlying178) ?_
  refine all_cons (Tryz.underlying179) ?_
  refine all_cons (Tryz.underlying180) ?_
  refine all_cons (Tryz.underlying181) ?_
  refine all_cons (Tryz.underlying182) ?_
  refine all_cons (Tryz.underlying183) ?_
  refine all_cons (Tryz.underlying184) ?_
  refine all_cons (Tryz.underlying185) ?_
  refine all_cons (Tryz.underlying186) ?_
  refine all_cons (Tryz.underlying187) ?_
  refine all_cons (Tryz.underlying188) ?_
  refine all_cons (Tryz.underlying189) ?_
  refine all_cons (Tryz.underlying190) ?_
  refine all_cons (Tryz.underlying191) ?_
  refine all_cons (Tryz.underlying192) ?_
  refine all_cons (Tryz.underlying193) ?_
  refine all_cons (Tryz.underlying194) ?_
  refine all_cons (Tryz.underlying195) ?_
  refine all_cons (Tryz.underlying196) ?_
  refine all_cons (Tryz.underlying197) ?_
  refine all_cons (Tryz.underlying198) ?_
  refine all_cons (Tryz.underlying199) ?_
  refine all_cons (Tryz.underlying200) ?_
  refine all_cons (Tryz.underlying201) ?_
  refine all_cons (Tryz.underlying202) ?_
  refine all_cons (Tryz.underlying203) ?_
  refine all_cons (Tryz.underlying204) ?_
  exact fun _ h => nomatch h

theorem tabS_ok : ∀ x ∈ tabS, ∀ w, (sizeOf x.1).run Tryz.prog w = .ok x.2 w := by
  refine all_cons (Tryz.sizeOf0) ?_
  refine all_cons (Tryz.sizeOf1) ?_
  refine all_cons (Tryz.sizeOf2) ?_
  refine all_cons (Tryz.sizeOf3) ?_
  refine all_cons (Tryz.sizeOf4) ?_
  refine all_cons (Tryz.sizeOf5) ?_
  refine all_cons (Tryz.sizeOf6) ?_
  refine all_cons (Tryz.sizeOf7) ?_
  refine all_cons (Tryz.sizeOf8) ?_
  refine all_cons (Tryz.sizeOf9) ?_
  refine all_cons (Tryz.sizeOf10) ?_
  refine all_cons (Tryz.sizeOf11) ?_
  refine all_cons (Tryz.sizeOf12) ?_
  refine all_cons (Tryz.sizeOf13) ?_
  refine all_cons (Tryz.sizeOf14) ?_
  refine all_cons (Tryz.sizeOf15) ?_
  refine all_cons (Tryz.sizeOf16) ?_
  refine all_cons (Tryz.sizeOf17) ?_
  refine all_cons (Tryz.sizeOf18) ?_
  refine all_cons (Tryz.sizeOf19) ?_
  refine all_cons (Tryz.sizeOf20) ?_
  refine all_cons (Tryz.sizeOf21) ?_
  refine all_cons (Tryz.sizeOf22) ?_
  refine all_cons (Tryz.sizeOf23) ?_
  refine all_cons (Tryz.sizeOf24) ?_
  refine all_cons (Tryz.sizeOf25) ?_
  refine all_cons (Tryz.sizeOf26) ?_
  refine all_cons (Tryz.sizeOf27) ?_
  refine all_cons (Tryz.sizeOf28) ?_
  refine all_cons (Tryz.sizeOf29) ?_
  refine all_cons (Tryz.sizeOf30) ?_
  refine all_cons (Tryz.sizeOf31) ?_
  refine all_cons (Tryz.sizeOf32) ?_
  refine all_cons (Tryz.sizeOf33) ?_
  refine all_cons (Tryz.sizeOf34) ?_
  refine all_cons (Tryz.sizeOf35) ?_
  refine all_cons (Tryz.sizeOf36) ?_
  refine all_cons (Tryz.sizeOf37) ?_
  refine all_cons (Tryz.sizeOf38) ?_
  refine all_cons (Tryz.sizeOf39) ?_
  refine all_cons (Tryz.sizeOf40) ?_
  refine all_cons (Tryz.sizeOf41) ?_
  refine all_cons (Tryz.sizeOf42) ?_
  refine all_cons (Tryz.sizeOf43) ?_
  refine all_cons (Tryz.sizeOf44) ?_
  refine all_cons (Tryz.sizeOf45) ?_
  refine all_cons (Tryz.sizeOf46) ?_
  refine all_cons (Tryz.sizeOf47) ?_
  refine all_cons (Tryz.sizeOf48) ?_
  refine all_cons (Tryz.sizeOf49) ?_
  refine all_cons (Tryz.sizeOf50) ?_
  refine all_cons (Tryz.sizeOf51) ?_
  refine all_cons (Tryz.sizeOf52) ?_
  refine all_cons (Tryz.sizeOf53) ?_
  refine all_cons (Tryz.sizeOf54) ?_
  refine all_cons (Tryz.sizeOf55) ?_
  refine all_cons (Tryz.sizeOf56) ?_
  refine all_cons (Tryz.sizeOf57) ?_
  refine all_cons (Tryz.sizeOf58) ?_
  refine all_cons (Tryz.sizeOf59) ?_
  refine all_cons (Tryz.sizeOf60) ?_
  refine all_cons (Tryz.sizeOf61) ?_
  refine all_cons (Tryz.sizeOf62) ?_
  refine all_cons (Tryz.sizeOf63) ?_
  refine all_cons (Tryz.sizeOf64) ?_
  refine all_cons (Tryz.sizeOf65) ?_
  refine all_cons (Tryz.sizeOf66) ?_
  refine all_cons (Tryz.sizeOf67) ?_
  refine all_cons (Tryz.sizeOf68) ?_
  refine all_cons (Tryz.sizeOf69) ?_
  refine all_cons (Tryz.sizeOf70) ?_
  refine all_cons (Tryz.sizeOf71) ?_
  refine all_cons (Tryz.sizeOf72) ?_
  refine all_cons (Tryz.sizeOf73) ?_
  refine all_cons (Tryz.sizeOf74) ?_
  refine all_cons (Tryz.sizeOf75) ?_
  refine all_cons (Tryz.sizeOf76) ?_
  refine all_cons (Tryz.sizeOf77) ?_
  refine all_cons (Tryz.sizeOf78) ?_
  refine all_cons (Tryz.sizeOf79) ?_
  refine all_cons (Tryz.sizeOf80) ?_
  refine all_cons (Tryz.sizeOf81) ?_
  refine all_cons (Tryz.sizeOf82) ?_
  refine all_cons (Tryz.sizeOf83) ?_
  refine all_cons (Tryz.sizeOf84) ?_
  refine all_cons (Tryz.sizeOf85) ?_
  refine all_cons (Tryz.sizeOf86) ?_
  refine all_cons (Tryz.sizeOf87) ?_
  refine all_cons (Tryz.sizeOf88) ?_
  refine all_cons (Tryz.sizeOf89) ?_
  refine all_cons (Tryz.sizeOf90) ?_
  refine all_cons (Tryz.sizeOf91) ?_
  refine all_cons (Tryz.sizeOf92) ?_
  refine all_cons (Tryz.sizeOf93) ?_
  refine all_cons (Tryz.sizeOf94) ?_
  refine all_cons (Tryz.sizeOf95) ?_
  refine all_cons (Tryz.sizeOf96) ?_
  refine all_cons (Tryz.sizeOf97) ?_
  refine all_cons (Tryz.sizeOf98) ?_
  refine all_cons (Tryz.sizeOf99) ?_
  refine all_cons (Tryz.sizeOf100) ?_
  refine all_cons (Tryz.sizeOf101) ?_
  refine all_cons (Tryz.sizeOf102) ?_
  refine all_cons (Tryz.sizeOf103) ?_
  refine all_cons (Tryz.sizeOf104) ?_
  refine all_cons (Tryz.sizeOf105) ?_
  refine all_cons (Tryz.sizeOf106) ?_
  refine all_cons (Tryz.sizeOf107) ?_
  refine all_cons (Tryz.sizeOf108) ?_
  refine all_cons (Tryz.sizeOf109) ?_
  refine all_cons (Tryz.sizeOf110) ?_
  refine all_cons (Tryz.sizeOf111) ?_
  refine all_cons (Tryz.sizeOf112) ?_
  refine all_cons (Tryz.sizeOf113) ?_
  refine all_cons (Tryz.sizeOf114) ?_
  refine all_cons (Tryz.sizeOf115) ?_
  refine all_cons (Tryz.sizeOf116) ?_
  refine all_cons (Tryz.sizeOf117) ?_
  refine all_cons (Tryz.sizeOf118) ?_
  refine all_cons (Tryz.sizeOf119) ?_
  refine all_cons (Tryz.sizeOf120) ?_
  refine all_cons (Tryz.sizeOf121) ?_
  refine all_cons (Tryz.sizeOf122) ?_
  refine all_cons (Tryz.sizeOf123) ?_
  refine all_cons (Tryz.sizeOf124) ?_
  refine all_cons (Tryz.sizeOf125) ?_
  refine all_cons (Tryz.sizeOf126) ?_
  refine all_cons (Tryz.sizeOf127) ?_
  refine all_cons (Tryz.sizeOf128) ?_
  refine all_cons (Tryz.sizeOf129) ?_
  refine all_cons (Tryz.sizeOf130) ?_
  refine all_cons (Tryz.sizeOf131) ?_
  refine all_cons (Tryz.sizeOf132) ?_
  refine all_cons (Tryz.sizeOf133) ?_
  refine all_cons (Tryz.sizeOf134) ?_
  refine all_cons (Tryz.sizeOf135) ?_
  refine all_cons (Tryz.sizeOf136) ?_
  refine all_cons (Tryz.sizeOf137) ?_
  refine all_cons (Tryz.sizeOf138) ?_
  refine all_cons (Tryz.sizeOf139) ?_
  refine all_cons (Tryz.sizeOf140) ?_
  refine all_cons (Tryz.sizeOf141) ?_
  refine all_cons (Tryz.sizeOf142) ?_
  refine all_cons (Tryz.sizeOf143) ?_
  refine all_cons (Tryz.sizeOf144) ?_
  refine all_cons (Tryz.sizeOf145) ?_
  refine all_cons (Tryz.sizeOf146) ?_
  refine all_cons (Tryz.sizeOf147) ?_
  refine all_cons (Tryz.sizeOf148) ?_
  refine all_cons (Tryz.sizeOf149) ?_
  refine all_cons (Tryz.sizeOf150) ?_
  refine all_cons (Tryz.sizeOf151) ?_
  refine all_cons (Tryz.sizeOf152) ?_
  refine all_cons (Tryz.sizeOf153) ?_
  refine all_cons (Tryz.sizeOf154) ?_
  refine all_cons (Tryz.sizeOf155) ?_
  refine all_cons (Tryz.sizeOf156) ?_
  refine all_cons (Tryz.sizeOf157) ?_
  refine all_cons (Tryz.sizeOf158) ?_
  refine all_cons (Tryz.sizeOf159) ?_
  refine all_cons (Tryz.sizeOf160) ?_
  refine all_cons (Tryz.sizeOf161) ?_
  refine all_cons (Tryz.sizeOf162) ?_
  refine all_cons (Tryz.sizeOf163) ?_
  refine all_cons (Tryz.sizeOf164) ?_
  refine all_cons (Tryz.sizeOf165) ?_
  refine all_cons (Tryz.sizeOf166) ?_
  refine all_cons (Tryz.sizeOf167) ?_
  refine all_cons (Tryz.sizeOf168) ?_
  refine all_cons (Tryz.sizeOf169) ?_
  refine all_cons (Tryz.sizeOf170) ?_
  refine all_cons (Tryz.sizeOf171) ?_
  refine all_cons (Tryz.sizeOf172) ?_
  refine all_cons (Tryz.sizeOf173) ?_
  refine all_cons (Tryz.sizeOf174) ?_
  refine all_cons (Tryz.sizeOf175) ?_
  refine all_cons (Tryz.sizeOf176) ?_
  refine all_cons (Tryz.sizeOf177) ?_
  refine all_cons (Tryz.sizeOf178) ?_
  refine all_cons (Tryz.sizeOf179) ?_
  refine all_cons (Tryz.sizeOf180) ?_
  refine all_cons (Tryz.sizeOf181) ?_
  refine all_cons (Tryz.sizeOf182) ?_
  refine all_cons (Tryz.sizeOf183) ?_
  refine all_cons (Tryz.sizeOf184) ?_
  refine all_cons (Tryz.sizeOf185) ?_
  refine all_cons (Tryz.sizeOf186) ?_
  refine all_cons (Tryz.sizeOf187) ?_
  refine all_cons (Tryz.sizeOf188) ?_
  refine all_cons (Tryz.sizeOf189) ?_
  refine all_cons (Tryz.sizeOf190) ?_
  refine all_cons (Tryz.sizeOf191) ?_
  refine all_cons (Tryz.sizeOf192) ?_
  refine all_cons (Tryz.sizeOf193) ?_
  refine all_cons (Tryz.sizeOf194) ?_
  refine all_cons (Tryz.sizeOf195) ?_
  refine all_cons (Tryz.sizeOf196) ?_
  refine all_cons (Tryz.sizeOf197) ?_
  refine all_cons (Tryz.sizeOf198) ?_
  refine all_cons (Tryz.sizeOf199) ?_
  refine all_cons (Tryz.sizeOf200) ?_
  refine all_cons (Tryz.sizeOf201) ?_
  refine all_cons (Tryz.sizeOf202) ?_
  refine all_cons (Tryz.sizeOf203) ?_
  refine all_cons (Tryz.sizeOf204) ?_
  exact fun _ h => nomatch h

theorem tabB_ok : ∀ x ∈ tabB, ∀ w, ∃ i, (typeInfo x.1).run Tryz.prog w = .ok i w ∧ i.bytes = x.2 := by
  refine all_cons (fun w => ⟨_, Tryz.typeInfo0 w, rfl⟩) ?_
  refine all_cons (fun w => ⟨_, Tryz.typeInfo1 w, rfl⟩) ?_
  refine all_cons (fun w => ⟨_, Tryz.typeInfo2 w, rfl⟩) ?_
  refine all_cons (fun w => ⟨_, Tryz.typeInfo3 w, rfl⟩) ?_
  refine all_cons (fun w => ⟨_, Tryz.typeInfo4 w, rfl⟩) ?_
  refine all_cons (fun w => ⟨_, Tryz.typeInfo5 w, rfl⟩) ?_
  refine all_cons (fun w => ⟨_, Tryz.typeInfo6 w, rfl⟩) ?_
  refine all_cons (fun w => ⟨_, Tryz.typeInfo7 w, rfl⟩) ?_
  refine all_cons (fun w => ⟨_, Tryz.typeInfo8 w, rfl⟩) ?_
  refine all_cons (fun w => ⟨_, Tryz.typeInfo9 w, rfl⟩) ?_
  refine all_cons (fun w => ⟨_, Tryz.typeInfo10 w, rfl⟩) ?_
  refine all_cons (fun w => ⟨_, Tryz.typeInfo11 w, rfl⟩) ?_
  refine all_cons (fun w => ⟨_, Tryz.typeInfo12 w, rfl⟩) ?_
  refine all_cons (fun w => ⟨_, Tryz.typeInfo13 w, rfl⟩) ?_
  refine all_cons (fun w => ⟨_, Tryz.typeInfo14 w, rfl⟩) ?_
  refine all_cons (fun w => ⟨_, Tryz.typeInfo15 w, rfl⟩) ?_
  refine all_cons (fun w => ⟨_, Tryz.typeInfo16 w, rfl⟩) ?_
  refine all_cons (fun w => ⟨_, Tryz.typeInfo17 w, rfl⟩) ?_
  refine all_cons (fun w => ⟨_, Tryz.typeInfo18 w, rfl⟩) ?_
  refine all_cons (fun w => ⟨_, Tryz.typeInfo19 w, rfl⟩) ?_
  refine all_cons (fun w => ⟨_, Tryz.typeInfo20 w, rfl⟩) ?_
  refine all_cons (fun w => ⟨_, Tryz.typeInfo21 w, rfl⟩) ?_
  refine all_cons (fun w => ⟨_, Tryz.typeInfo22 w, rfl⟩) ?_
  refine all_cons (fun w => ⟨_, Tryz.typeInfo23 w, rfl⟩) ?_
  refine all_cons (fun w => ⟨_, Tryz.typeInfo24 w, rfl⟩) ?_
  refine all_cons (fun w => ⟨_, Tryz.typeInfo25 w, rfl⟩) ?_
  refine all_cons (fun w => ⟨_, Tryz.typeInfo26 w, rfl⟩) ?_
  refine all_cons (fun w => ⟨_, Tryz.typeInfo27 w, rfl⟩) ?_
  refine all_cons (fun w => ⟨_, Tryz.typeInfo28 w, rfl⟩) ?_
  refine all_cons (fun w => ⟨_, Tryz.typeInfo29 w, rfl⟩) ?_
  refine all_cons (fun w => ⟨_, Tryz.typeInfo30 w, rfl⟩) ?_
  refine all_cons (fun w => ⟨_, Tryz.typeInfo31 w, rfl⟩) ?_
  refine all_cons (fun w => ⟨_, Tryz.typeInfo32 w, rfl⟩) ?_
  refine all_cons (fun w => ⟨_, Tryz.typeInfo33 w, rfl⟩) ?_
  refine all_cons (fun w => ⟨_, Tryz.typeInfo34 w, rfl⟩) ?_
  refine all_cons (fun w => ⟨_, Tryz.typeInfo35 w, rfl⟩) ?_
  refine all_cons (fun w => ⟨_, Tryz.typeInfo36 w, rfl⟩) ?_
  refine all_cons (fun w => ⟨_, Tryz.typeInfo37 w, rfl⟩) ?_
  refine all_cons (fun w => ⟨_, Tryz.typeInfo38 w, rfl⟩) ?_
  refine all_cons (fun w => ⟨_, Tryz.typeInfo39 w, rfl⟩) ?_
  refine all_cons (fun w => ⟨_, Tryz.typeInfo40 w, rfl⟩) ?_
  refine all_cons (fun w => ⟨_, Tryz.typeInfo41 w, rfl⟩) ?_
  refine all_cons (fun w => ⟨_, Tryz.typeInfo42 w, rfl⟩) ?_
  refine all_cons (fun w => ⟨_, Tryz.typeInfo43 w, rfl⟩) ?_
  refine all_cons (fun w => ⟨_, Tryz.typeInfo44 w, rfl⟩) ?_
  refine all_cons (fun w => ⟨_, Tryz.typeInfo45 w, rfl⟩) ?_
  refine all_cons (fun w => ⟨_, Tryz.typeInfo46 w, rfl⟩) ?_
  refine all_cons (fun w => ⟨_, Tryz.typeInfo47 w, rfl⟩) ?_
  refine all_cons (fun w => ⟨_, Tryz.typeInfo48 w, rfl⟩) ?_
  refine all_cons (fun w => ⟨_, Tryz.typeInfo49 w, rfl⟩) ?_
  refine all_cons (fun w => ⟨_, Tryz.typeInfo50 w, rfl⟩) ?_
  refine all_cons (fun w => ⟨_, Tryz.typeInfo51 w, rfl⟩) ?_
  refine all_cons (fun w => ⟨_, Tryz.typeInfo52 w, rfl⟩) ?_
  refine all_cons (fun w => ⟨_, Tryz.typeInfo53 w, rfl⟩) ?_
  refine all_cons (fun w => ⟨_, Tryz.typeInfo54 w, rfl⟩) ?_
  refine all_cons (fun w => ⟨_, Tryz.typeInfo55 w, rfl⟩) ?_
  refine all_cons (fun w => ⟨_, Tryz.typeInfo56 w, rfl⟩) ?_
  refine all_cons (fun w => ⟨_, Tryz.typeInfo57 w, rfl⟩) ?_
  refine all_cons (fun w => ⟨_, Tryz.typeInfo58 w, rfl⟩) ?_
  refine all_cons (fun w => ⟨_, Tryz.typeInfo59 w, rfl⟩) ?_
  refine all_cons (fun w => ⟨_, Tryz.typeInfo60 w, rfl⟩) ?_
  refine all_cons (fun w => ⟨_, Tryz.typeInfo61 w, rfl⟩) ?_
  refine all_cons (fun w => ⟨_, Tryz.typeInfo62 w, rfl⟩) ?_
  refine all_cons (fun w => ⟨_, Tryz.typeInfo63 w, rfl⟩) ?_
  refine all_cons (fun w => ⟨_, Tryz.typeInfo64 w, rfl⟩) ?_
  refine all_cons (fun w => ⟨_, Tryz.typeInfo65 w, rfl⟩) ?_
  refine all_cons (fun w => ⟨_, Tryz.typeInfo66 w, rfl⟩) ?_
  refine all_cons (fun w => ⟨_, Tryz.typeInfo67 w, rfl⟩) ?_
  refine all_cons (fun w => ⟨_, Tryz.typeInfo68 w, rfl⟩) ?_
  refine all_cons (fun w => ⟨_, Tryz.typeInfo69 w, rfl⟩) ?_
  refine all_cons (fun w => ⟨_, Tryz.typeInfo70 w, rfl⟩) ?_
  refine all_cons (fun w => ⟨_, Tryz.typeInfo71 w, rfl⟩) ?_
  refine all_cons (fun w => ⟨_, Tryz.typeInfo72 w, rfl⟩) ?_
  refine all_cons (fun w => ⟨_, Tryz.typeInfo73 w, rfl⟩) ?_
  refine all_cons (fun w => ⟨_, Tryz.typeInfo74 w, rfl⟩) ?_
  refine all_cons (fun w => ⟨_, Tryz.typeInfo75 w, rfl⟩) ?_
  refine all_cons (fun w => ⟨_, Tryz.typeInfo76 w, rfl⟩) ?_
  refine all_cons (fun w => ⟨_, Tryz.typeInfo77 w, rfl⟩) ?_
  refine all_cons (fun w => ⟨_, Tryz.typeInfo78 w, rfl⟩) ?_
  refine all_cons (fun w => ⟨_, Tryz.typeInfo79 w, rfl⟩) ?_
  refine all_cons (fun w => ⟨_, Tryz.typeInfo80 w, rfl⟩) ?_
  refine all_cons (fun w => ⟨_, Tryz.typeInfo81 w, rfl⟩) ?_
  refine all_cons (fun w => ⟨_, Tryz.typeInfo82 w, rfl⟩) ?_
  refine all_cons (fun w => ⟨_, Tryz.typeInfo83 w, rfl⟩) ?_
  refine all_cons (fun w => ⟨_, Tryz.typeInfo84 w, rfl⟩) ?_
  refine all_cons (fun w => ⟨_, Tryz.typeInfo85 w, rfl⟩) ?_
  refine all_cons (fun w => ⟨_, Tryz.typeInfo86 w, rfl⟩) ?_
  refine all_cons (fun w => ⟨_, Tryz.typeInfo87 w, rfl⟩) ?_
  refine all_cons (fun w => ⟨_, Tryz.typeInfo88 w, rfl⟩) ?_
  refine all_cons (fun w => ⟨_, Tryz.typeInfo89 w, rfl⟩) ?_
  refine all_cons (fun w => ⟨_, Tryz.typeInfo90 w, rfl⟩) ?_
  refine all_cons (fun w => ⟨_, Tryz.typeInfo91 w, rfl⟩) ?_
  refine all_cons (fun w => ⟨_, Tryz.typeInfo92 w, rfl⟩) ?_
  refine all_cons (fun w => ⟨_, Tryz.typeInfo93 w, rfl⟩) ?_
  refine all_cons (fun w => ⟨_, Tryz.typeInfo94 w, rfl⟩) ?_
  refine all_cons (fun w => ⟨_, Tryz.typeInfo95 w, rfl⟩) ?_
  refine all_cons (fun w => ⟨_, Tryz.typeInfo96 w, rfl⟩) ?_
  refine all_cons (fun w => ⟨_, Tryz.typeInfo97 w, rfl⟩) ?_
  refine all_cons (fun w => ⟨_, Tryz.typeInfo98 w, rfl⟩) ?_
  refine all_cons (fun w => ⟨_, Tryz.typeInfo99 w, rfl⟩) ?_
  refine all_cons (fun w => ⟨_, Tryz.typeInfo100 w, rfl⟩) ?_
  refine all_cons (fun w => ⟨_, Tryz.typeInfo101 w, rfl⟩) ?_
  refine all_cons (fun w => ⟨_, Tryz.typeInfo102 w, rfl⟩) ?_
  refine all_cons (fun w => ⟨_, Tryz.typeInfo103 w, rfl⟩) ?_
  refine all_cons (fun w => ⟨_, Tryz.typeInfo104 w, rfl⟩) ?_
  refine all_cons (fun w => ⟨_, Tryz.typeInfo105 w, rfl⟩) ?_
  refine all_cons (fun w => ⟨_, Tryz.typeInfo106 w, rfl⟩) ?_
  refine all_cons (fun w => ⟨_, Tryz.typeInfo107 w, rfl⟩) ?_
  refine all_cons (fun w => ⟨_, Tryz.typeInfo108 w, rfl⟩) ?_
  refine all_cons (fun w => ⟨_, Tryz.typeInfo109 w, rfl⟩) ?_
  refine all_cons (fun w => ⟨_, Tryz.typeInfo110 w, rfl⟩) ?_
  refine all_cons (fun w => ⟨_, Tryz.typeInfo111 w, rfl⟩) ?_
  refine all_cons (fun w => ⟨_, Tryz.typeInfo112 w, rfl⟩) ?_
  refine all_cons (fun w => ⟨_, Tryz.typeInfo113 w, rfl⟩) ?_
  refine all_cons (fun w => ⟨_, Tryz.typeInfo114 w, rfl⟩) ?_
  refine all_cons (fun w => ⟨_, Tryz.typeInfo115 w, rfl⟩) ?_
  refine all_cons (fun w => ⟨_, Tryz.typeInfo116 w, rfl⟩) ?_
  refine all_cons (fun w => ⟨_, Tryz.typeInfo117 w, rfl⟩) ?_
  refine all_cons (fun w => ⟨_, Tryz.typeInfo118 w, rfl⟩) ?_
  refine all_cons (fun w => ⟨_, Tryz.typeInfo119 w, rfl⟩) ?_
  refine all_cons (fun w => ⟨_, Tryz.typeInfo120 w, rfl⟩) ?_
  refine all_cons (fun w => ⟨_, Tryz.typeInfo121 w, rfl⟩) ?_
  refine all_cons (fun w => ⟨_, Tryz.typeInfo122 w, rfl⟩) ?_
  refine all_cons (fun w => ⟨_, Tryz.typeInfo123 w, rfl⟩) ?_
  refine all_cons (fun w => ⟨_, Tryz.typeInfo124 w, rfl⟩) ?_
  refine all_cons (fun w => ⟨_, Tryz.typeInfo125 w, rfl⟩) ?_
  refine all_cons (fun w => ⟨_, Tryz.typeInfo126 w, rfl⟩) ?_
  refine all_cons (fun w => ⟨_, Tryz.typeInfo127 w, rfl⟩) ?_
  refine all_cons (fun w => ⟨_, Tryz.typeInfo128 w, rfl⟩) ?_
  refine all_cons (fun w => ⟨_, Tryz.typeInfo129 w, rfl⟩) ?_
  refine all_cons (fun w => ⟨_, Tryz.typeInfo130 w, rfl⟩) ?_
  refine all_cons (fun w => ⟨_, Tryz.typeInfo131 w, rfl⟩) ?_
  refine all_cons (fun w => ⟨_, Tryz.typeInfo132 w, rfl⟩) ?_
  refine all_cons (fun w => ⟨_, Tryz.typeInfo133 w, rfl⟩) ?_
  refine all_cons (fun w => ⟨_, Tryz.typeInfo134 w, rfl⟩) ?_
  refine all_cons (fun w => ⟨_, Tryz.typeInfo135 w, rfl⟩) ?_
  refine all_cons (fun w => ⟨_, Tryz.typeInfo136 w, rfl⟩) ?_
  refine all_cons (fun w => ⟨_, Tryz.typeInfo137 w, rfl⟩) ?_
  refine all_cons (fun w => ⟨_, Tryz.typeInfo138 w, rfl⟩) ?_
  refine all_cons (fun w => ⟨_, Tryz.typeInfo139 w, rfl⟩) ?_
  refine all_cons (fun w => ⟨_, Tryz.typeInfo140 w, rfl⟩) ?_
  refine all_cons (fun w => ⟨_, Tryz.typeInfo141 w, rfl⟩) ?_
  refine all_cons (fun w => ⟨_, Tryz.typeInfo142 w, rfl⟩) ?_
  refine all_cons (fun w => ⟨_, Tryz.typeInfo143 w, rfl⟩) ?_
  refine all_cons (fun w => ⟨_, Tryz.typeInfo144 w, rfl⟩) ?_
  refine all_cons (fun w => ⟨_, Tryz.typeInfo145 w, rfl⟩) ?_
  refine all_cons (fun w => ⟨_, Tryz.typeInfo146 w, rfl⟩) ?_
  refine all_cons (fun w => ⟨_, Tryz.typeInfo147 w, rfl⟩) ?_
  refine all_cons (fun w => ⟨_, Tryz.typeInfo148 w, rfl⟩) ?_
  refine all_cons (fun w => ⟨_, Tryz.typeInfo149 w, rfl⟩) ?_
  refine all_cons (fun w => ⟨_, Tryz.typeInfo150 w, rfl⟩) ?_
  refine all_cons (fun w => ⟨_, Tryz.typeInfo151 w, rfl⟩) ?_
  refine all_cons (fun w => ⟨_, Tryz.typeInfo152 w, rfl⟩) ?_
  refine all_cons (fun w => ⟨_, Tryz.typeInfo153 w, rfl⟩) ?_
  refine all_cons (fun w => ⟨_, Tryz.typeInfo154 w, rfl⟩) ?_
  refine all_cons (fun w => ⟨_, Tryz.typeInfo155 w, rfl⟩) ?_
  refine all_cons (fun w => ⟨_, Tryz.typeInfo156 w, rfl⟩) ?_
  refine all_cons (fun w => ⟨_, Tryz.typeInfo157 w, rfl⟩) ?_
  refine all_cons (fun w => ⟨_, Tryz.typeInfo158 w, rfl⟩) ?_
  refine all_cons (fun w => ⟨_, Tryz.typeInfo159 w, rfl⟩) ?_
  refine all_cons (fun w => ⟨_, Tryz.typeInfo160 w, rfl⟩) ?_
  refine all_cons (fun w => ⟨_, Tryz.typeInfo161 w, rfl⟩) ?_
  refine all_cons (fun w => ⟨_, Tryz.typeInfo162 w, rfl⟩) ?_
  refine all_cons (fun w => ⟨_, Tryz.typeInfo163 w, rfl⟩) ?_
  refine all_cons (fun w => ⟨_, Tryz.typeInfo164 w, rfl⟩) ?_
  refine all_cons (fun w => ⟨_, Tryz.typeInfo165 w, rfl⟩) ?_
  refine all_cons (fun w => ⟨_, Tryz.typeInfo166 w, rfl⟩) ?_
  refine all_cons (fun w => ⟨_, Tryz.typeInfo167 w, rfl⟩) ?_
  refine all_cons (fun w => ⟨_, Tryz.typeInfo168 w, rfl⟩) ?_
  refine all_cons (fun w => ⟨_, Tryz.typeInfo169 w, rfl⟩) ?_
  refine all_cons (fun w => ⟨_, Tryz.typeInfo170 w, rfl⟩) ?_
  refine all_cons (fun w => ⟨_, Tryz.typeInfo171 w, rfl⟩) ?_
  refine all_cons (fun w => ⟨_, Tryz.typeInfo172 w, rfl⟩) ?_
  refine all_cons (fun w => ⟨_, Tryz.typeInfo173 w, rfl⟩) ?_
  refine all_cons (fun w => ⟨_, Tryz.typeInfo174 w, rfl⟩) ?_
  refine all_cons (fun w => ⟨_, Tryz.typeInfo175 w, rfl⟩) ?_
  refine all_cons (fun w => ⟨_, Tryz.typeInfo176 w, rfl⟩) ?_
  refine all_cons (fun w => ⟨_, Tryz.typeInfo177 w, rfl⟩) ?_
  refine all_cons (fun w => ⟨_, Tryz.typeInfo178 w, rfl⟩) ?_
  refine all_cons (fun w => ⟨_, Tryz.typeInfo179 w, rfl⟩) ?_
  refine all_cons (fun w => ⟨_, Tryz.typeInfo180 w, rfl⟩) ?_
  refine all_cons (fun w => ⟨_, Tryz.typeInfo181 w, rfl⟩) ?_
  refine all_cons (fun w => ⟨_, Tryz.typeInfo182 w, rfl⟩) ?_
  refine all_cons (fun w => ⟨_, Tryz.typeInfo183 w, rfl⟩) ?_
  refine all_cons (fun w => ⟨_, Tryz.typeInfo184 w, rfl⟩) ?_
  refine all_cons (fun w => ⟨_, Tryz.typeInfo185 w, rfl⟩) ?_
  refine all_cons (fun w => ⟨_, Tryz.typeInfo186 w, rfl⟩) ?_
  refine all_cons (fun w => ⟨_, Tryz.typeInfo187 w, rfl⟩) ?_
  refine all_cons (fun w => ⟨_, Tryz.typeInfo188 w, rfl⟩) ?_
  refine all_cons (fun w => ⟨_, Tryz.typeInfo189 w, rfl⟩) ?_
  refine all_cons (fun w => ⟨_, Tryz.typeInfo190 w, rfl⟩) ?_
  refine all_cons (fun w => ⟨_, Tryz.typeInfo191 w, rfl⟩) ?_
  refine all_cons (fun w => ⟨_, Tryz.typeInfo192 w, rfl⟩) ?_
  refine all_cons (fun w => ⟨_, Tryz.typeInfo193 w, rfl⟩) ?_
  refine all_cons (fun w => ⟨_, Tryz.typeInfo194 w, rfl⟩) ?_
  refine all_cons (fun w => ⟨_, Tryz.typeInfo195 w, rfl⟩) ?_
  refine all_cons (fun w => ⟨_, Tryz.typeInfo196 w, rfl⟩) ?_
  refine all_cons (fun w => ⟨_, Tryz.typeInfo197 w, rfl⟩) ?_
  refine all_cons (fun w => ⟨_, Tryz.typeInfo198 w, rfl⟩) ?_
  refine all_cons (fun w => ⟨_, Tryz.typeInfo199 w, rfl⟩) ?_
  refine all_cons (fun w => ⟨_, Tryz.typeInfo200 w, rfl⟩) ?_
  refine all_cons (fun w => ⟨_, Tryz.typeInfo201 w, rfl⟩) ?_
  refine all_cons (fun w => ⟨_, Tryz.typeInfo202 w, rfl⟩) ?_
  refine all_cons (fun w => ⟨_, Tryz.typeInfo203 w, rfl⟩) ?_
  refine all_cons (fun w => ⟨_, Tryz.typeInfo204 w, rfl⟩) ?_
  exact fun _ h => nomatch h

theorem tabZ_ok : ∀ x ∈ tabZ, ∀ w, (zeroValue x.1).run Tryz.prog w = .ok x.2 w := by
  refine all_cons (Tryz.zeroValue0) ?_
  refine all_cons (Tryz.zeroValue1) ?_
  refine all_cons (Tryz.zeroValue2) ?_
  refine all_cons (Tryz.zeroValue3) ?_
  refine all_cons (Tryz.zeroValue4) ?_
  refine all_cons (Tryz.zeroValue5) ?_
  refine all_cons (Tryz.zeroValue6) ?_
  refine all_cons (Tryz.zeroValue7) ?_
  refine all_cons (Tryz.zeroValue8) ?_
  refine all_cons (Tryz.zeroValue9) ?_
  refine all_cons (Tryz.zeroValue10) ?_
  refine all_cons (Tryz.zeroValue11) ?_
  refine all_cons (Tryz.zeroValue12) ?_
  refine all_cons (Tryz.zeroValue13) ?_
  refine all_cons (Tryz.zeroValue14) ?_
  refine all_cons (Tryz.zeroValue15) ?_
  refine all_cons (Tryz.zeroValue16) ?_
  refine all_cons (Tryz.zeroValue17) ?_
  refine all_cons (Tryz.zeroValue18) ?_
  refine all_cons (Tryz.zeroValue19) ?_
  refine all_cons (Tryz.zeroValue20) ?_
  refine all_cons (Tryz.zeroValue21) ?_
  refine all_cons (Tryz.zeroValue22) ?_
  refine all_cons (Tryz.zeroValue23) ?_
  refine all_cons (Tryz.zeroValue24) ?_
  refine all_cons (Tryz.zeroValue25) ?_
  refine all_cons (Tryz.zeroValue26) ?_
  refine all_cons (Tryz.zeroValue27) ?_
  refine all_cons (Tryz.zeroValue28) ?_
  refine all_cons (Tryz.zeroValue29) ?_
  refine all_cons (Tryz.zeroValue30) ?_
  refine all_cons (Tryz.zeroValue31) ?_
  refine all_cons (Tryz.zeroValue32) ?_
  refine all_cons (Tryz.zeroValue33) ?_
  refine all_cons (Tryz.zeroValue34) ?_
  refine all_cons (Tryz.zeroValue35) ?_
  refine all_cons (Tryz.zeroValue36) ?_
  refine all_cons (Tryz.zeroValue37) ?_
  refine all_cons (Tryz.zeroValue38) ?_
  refine all_cons (Tryz.zeroValue39) ?_
  refine all_cons (Tryz.zeroValue40) ?_
  refine all_cons (Tryz.zeroValue41) ?_
  refine all_cons (Tryz.zeroValue42) ?_
  refine all_cons (Tryz.zeroValue43) ?_
  refine all_cons (Tryz.zeroValue44) ?_
  refine all_cons (Tryz.zeroValue45) ?_
  refine all_cons (Tryz.zeroValue46) ?_
  refine all_cons (Tryz.zeroValue47) ?_
  refine all_cons (Tryz.zeroValue48) ?_
  refine all_cons (Tryz.zeroValue49) ?_
  refine all_cons (Tryz.zeroValue50) ?_
  refine all_cons (Tryz.zeroValue51) ?_
  refine all_cons (Tryz.zeroValue52) ?_
  refine all_cons (Tryz.zeroValue53) ?_
  refine all_cons (Tryz.zeroValue54) ?_
  refine all_cons (Tryz.zeroValue55) ?_
  refine all_cons (Tryz.zeroValue56) ?_
  refine all_cons (Tryz.zeroValue57) ?_
  refine all_cons (Tryz.zeroValue58) ?_
  refine all_cons (Tryz.zeroValue59) ?_
  refine all_cons (Tryz.zeroValue60) ?_
  refine all_cons (Tryz.zeroValue61) ?_
  refine all_cons (Tryz.zeroValue62) ?_
  refine all_cons (Tryz.zeroValue63) ?_
  refine all_cons (Tryz.zeroValue64) ?_
  refine all_cons (Tryz.zeroValue65) ?_
  refine all_cons (Tryz.zeroValue66) ?_
  refine all_cons (Tryz.zeroValue67) ?_
  refine all_cons (Tryz.zeroValue68) ?_
  refine all_cons (Tryz.zeroValue69) ?_
  refine all_cons (Tryz.zeroValue70) ?_
  refine all_cons (Tryz.zeroValue71) ?_
  refine all_cons (Tryz.zeroValue72) ?_
  refine all_cons (Tryz.zeroValue73) ?_
  refine all_cons (Tryz.zeroValue74) ?_
  refine all_cons (Tryz.zeroValue75) ?_
  refine all_cons (Tryz.zeroValue76) ?_
  refine all_cons (Tryz.zeroValue77) ?_
  refine all_cons (Tryz.zeroValue78) ?_
  refine all_cons (Tryz.zeroValue79) ?_
  refine all_cons (Tryz.zeroValue80) ?_
  refine all_cons (Tryz.zeroValue81) ?_
  refine all_cons (Tryz.zeroValue82) ?_
  refine all_cons (Tryz.zeroValue83) ?_
  refine all_cons (Tryz.zeroValue84) ?_
  refine all_cons (Tryz.zeroValue85) ?_
  refine all_cons (Tryz.zeroValue86) ?_
  refine all_cons (Tryz.zeroValue87) ?_
  refine all_cons (Tryz.zeroValue88) ?_
  refine all_cons (Tryz.zeroValue89) ?_
  refine all_cons (Tryz.zeroValue90) ?_
  refine all_cons (Tryz.zeroValue91) ?_
  refine all_cons (Tryz.zeroValue92) ?_
  refine all_cons (Tryz.zeroValue93) ?_
  refine all_cons (Tryz.zeroValue94) ?_
  refine all_cons (Tryz.zeroValue95) ?_
  refine all_cons (Tryz.zeroValue96) ?_
  refine all_cons (Tryz.zeroValue97) ?_
  refine all_cons (Tryz.zeroValue98) ?_
  refine all_cons (Tryz.zeroValue99) ?_
  refine all_cons (Tryz.zeroValue100) ?_
  refine all_cons (Tryz.zeroValue101) ?_
  refine all_cons (Tryz.zeroValue102) ?_
  refine all_cons (Tryz.zeroValue103) ?_
  refine all_cons (Tryz.zeroValue104) ?_
  refine all_cons (Tryz.zeroValue105) ?_
  refine all_cons (Tryz.zeroValue106) ?_
  refine all_cons (Tryz.zeroValue107) ?_
  refine all_cons (Tryz.zeroValue108) ?_
  refine all_cons (Tryz.zeroValue109) ?_
  refine all_cons (Tryz.zeroValue110) ?_
  refine all_cons (Tryz.zeroValue111) ?_
  refine all_cons (Tryz.zeroValue112) ?_
  refine all_cons (Tryz.zeroValue113) ?_
  refine all_cons (Tryz.zeroValue114) ?_
  refine all_cons (Tryz.zeroValue115) ?_
  refine all_cons (Tryz.zeroValue116) ?_
  refine all_cons (Tryz.zeroValue117) ?_
  refine all_cons (Tryz.zeroValue118) ?_
  refine all_cons (Tryz.zeroValue119) ?_
  refine all_cons (Tryz.zeroValue120) ?_
  refine all_cons (Tryz.zeroValue121) ?_
  refine all_cons (Tryz.zeroValue122) ?_
  refine all_cons (Tryz.zeroValue123) ?_
  refine all_cons (Tryz.zeroValue124) ?_
  refine all_cons (Tryz.zeroValue125) ?_
  refine all_cons (Tryz.zeroValue126) ?_
  refine all_cons (Tryz.zeroValue127) ?_
  refine all_cons (Tryz.zeroValue128) ?_
  refine all_cons (Tryz.zeroValue129) ?_
  refine all_cons (Tryz.zeroValue130) ?_
  refine all_cons (Tryz.zeroValue131) ?_
  refine all_cons (Tryz.zeroValue132) ?_
  refine all_cons (Tryz.zeroValue133) ?_
  refine all_cons (Tryz.zeroValue134) ?_
  refine all_cons (Tryz.zeroValue135) ?_
  refine all_cons (Tryz.zeroValue136) ?_
  refine all_cons (Tryz.zeroValue137) ?_
  refine all_cons (Tryz.zeroValue138) ?_
  refine all_cons (Tryz.zeroValue139) ?_
  refine all_cons (Tryz.zeroValue140) ?_
  refine all_cons (Tryz.zeroValue141) ?_
  refine all_cons (Tryz.zeroValue142) ?_
  refine all_cons (Tryz.zeroValue143) ?_
  refine all_cons (Tryz.zeroValue144) ?_
  refine all_cons (Tryz.zeroValue145) ?_
  refine all_cons (Tryz.zeroValue146) ?_
  refine all_cons (Tryz.zeroValue147) ?_
  refine all_cons (Tryz.zeroValue148) ?_
  refine all_cons (Tryz.zeroValue149) ?_
  refine all_cons (Tryz.zeroValue150) ?_
  refine all_cons (Tryz.zeroValue151) ?_
  refine all_cons (Tryz.zeroValue152) ?_
  refine all_cons (Tryz.zeroValue153) ?_
  refine all_cons (Tryz.zeroValue154) ?_
  refine all_cons (Tryz.zeroValue155) ?_
  refine all_cons (Tryz.zeroValue156) ?_
  refine all_cons (Tryz.zeroValue157) ?_
  refine all_cons (Tryz.zeroValue158) ?_
  refine all_cons (Tryz.zeroValue159) ?_
  refine all_cons (Tryz.zeroValue160) ?_
  refine all_cons (Tryz.zeroValue161) ?_
  refine all_cons (Tryz.zeroValue162) ?_
  refine all_cons (Tryz.zeroValue163) ?_
  refine all_cons (Tryz.zeroValue164) ?_
  refine all_cons (Tryz.zeroValue165) ?_
  refine all_cons (Tryz.zeroValue166) ?_
  refine all_cons (Tryz.zeroValue167) ?_
  refine all_cons (Tryz.zeroValue168) ?_
  refine all_cons (Tryz.zeroValue169) ?_
  refine all_cons (Tryz.zeroValue170) ?_
  refine all_cons (Tryz.zeroValue171) ?_
  refine all_cons (Tryz.zeroValue172) ?_
  refine all_cons (Tryz.zeroValue173) ?_
  refine all_cons (Tryz.zeroValue174) ?_
  refine all_cons (Tryz.zeroValue175) ?_
  refine all_cons (Tryz.zeroValue176) ?_
  refine all_cons (Tryz.zeroValue177) ?_
  refine all_cons (Tryz.zeroValue178) ?_
  refine all_cons (Tryz.zeroValue179) ?_
  refine all_cons (Tryz.zeroValue180) ?_
  refine all_cons (Tryz.zeroValue181) ?_
  refine all_cons (Tryz.zeroValue182) ?_
  refine all_cons (Tryz.zeroValue183) ?_
  refine all_cons (Tryz.zeroValue184) ?_
  refine all_cons (Tryz.zeroValue185) ?_
  refine all_cons (Tryz.zeroValue186) ?_
  refine all_cons (Tryz.zeroValue187) ?_
  refine all_cons (Tryz.zeroValue188) ?_
  refine all_cons (Tryz.zeroValue189) ?_
  refine all_cons (Tryz.zeroValue190) ?_
  refine all_cons (Tryz.zeroValue191) ?_
  refine all_cons (Tryz.zeroValue192) ?_
  refine all_cons (Tryz.zeroValue193) ?_
  refine all_cons (Tryz.zeroValue194) ?_
  refine all_cons (Tryz.zeroValue195) ?_
  refine all_cons (Tryz.zeroValue196) ?_
  refine all_cons (Tryz.zeroValue197) ?_
  refine all_cons (Tryz.zeroValue198) ?_
  refine all_cons (Tryz.zeroValue199) ?_
  refine all_cons (Tryz.zeroValue200) ?_
  refine all_cons (Tryz.zeroValue201) ?_
  refine all_cons (Tryz.zeroValue202) ?_
  refine all_cons (Tryz.zeroValue203) ?_
  refine all_cons (Tryz.zeroValue204) ?_
  exact fun _ h => nomatch h

theorem tok : TabOk Tryz.prog tab := ⟨tabD_ok, tabS_ok, tabB_ok, tabZ_ok⟩

end Go.Proofs.YtcibiidebknkgaaGreat
