/- What is known of the types of this seat: written by a program, off the seat's own facts. -/
import Derived.Test.YthpekiohalejmaaGreatDoorProg
import Derived.Test.YthpekiohalejmaaGreatDoorVc
namespace Go.Proofs.YthpekiohalejmaaGreatDoor
open Go Go.Vc

theorem all_cons {α : Type} {p : α → Prop} {x : α} {l : List α} (h : p x) (r : ∀ y ∈ l, p y) : ∀ y ∈ x :: l, p y := fun y hy => by
  cases hy with
  | head => exact h
  | tail _ hy => exact r y hy

def tabD : List (Nat × TypeDesc) := [(0, Go.TypeDesc.tuple #[]), (1, Go.TypeDesc.func #[] #[] false), (2, Go.TypeDesc.int Go.IntKind.i64), (3, Go.TypeDesc.int Go.IntKind.i64), (4, Go.TypeDesc.bool), (5, Go.TypeDesc.int Go.IntKind.u8), (6, Go.TypeDesc.int Go.IntKind.u8), (7, Go.TypeDesc.struct #[{ name := "x", type := 2, offset := 0, embedded := false, tag := "", pkgPath := "runtime", byteOffset := 0 }, { name := "y", type := 3, offset := 1, embedded := false, tag := "", pkgPath := "runtime", byteOffset := 8 }, { name := "signed", type := 4, offset := 2, embedded := false, tag := "", pkgPath := "runtime", byteOffset := 16 }, { name := "code", type := 6, offset := 3, embedded := false, tag := "", pkgPath := "runtime", byteOffset := 17 }]), (8, Go.TypeDesc.struct #[{ name := "x", type := 2, offset := 0, embedded := false, tag := "", pkgPath := "runtime", byteOffset := 0 }, { name := "y", type := 3, offset := 1, embedded := false, tag := "", pkgPath := "runtime", byteOffset := 8 }, { name := "signed", type := 4, offset := 2, embedded := false, tag := "", pkgPath := "runtime", byteOffset := 16 }, { name := "code", type := 6, offset := 3, embedded := false, tag := "", pkgPath := "runtime", byteOffset := 17 }]), (9, Go.TypeDesc.string), (10, Go.TypeDesc.string), (11, Go.TypeDesc.string), (12, Go.TypeDesc.int Go.IntKind.u64), (13, Go.TypeDesc.struct #[{ name := "msg", type := 9, offset := 0, embedded := false, tag := "", pkgPath := "runtime", byteOffset := 0 }, { name := "addr", type := 12, offset := 1, embedded := false, tag := "", pkgPath := "runtime", byteOffset := 16 }]), (14, Go.TypeDesc.struct #[{ name := "msg", type := 9, offset := 0, embedded := false, tag := "", pkgPath := "runtime", byteOffset := 0 }, { name := "addr", type := 12, offset := 1, embedded := false, tag := "", pkgPath := "runtime", byteOffset := 16 }]), (15, Go.TypeDesc.pointer 138), (16, Go.TypeDesc.pointer 141), (17, Go.TypeDesc.pointer 149), (18, Go.TypeDesc.struct #[{ name := "typ", type := 17, offset := 0, embedded := false, tag := "", pkgPath := "internal/runtime/maps", byteOffset := 0 }]), (19, Go.TypeDesc.struct #[{ name := "typ", type := 17, offset := 0, embedded := false, tag := "", pkgPath := "internal/runtime/maps", byteOffset := 0 }]), (20, Go.TypeDesc.interface #[]), (21, Go.TypeDesc.int Go.IntKind.i32), (22, Go.TypeDesc.slice 48), (23, Go.TypeDesc.slice 55), (24, Go.TypeDesc.slice 59), (25, Go.TypeDesc.struct #[{ name := "Enums", type := 22, offset := 0, embedded := false, tag := "", pkgPath := "", byteOffset := 0 }, { name := "Vars", type := 23, offset := 1, embedded := false, tag := "", pkgPath := "", byteOffset := 24 }, { name := "Processes", type := 24, offset := 2, embedded := false, tag := "", pkgPath := "", byteOffset := 48 }]), (26, Go.TypeDesc.struct #[{ name := "Enums", type := 22, offset := 0, embedded := false, tag := "", pkgPath := "", byteOffset := 0 }, { name := "Vars", type := 23, offset := 1, embedded := false, tag := "", pkgPath := "", byteOffset := 24 }, { name := "Processes", type := 24, offset := 2, embedded := false, tag := "", pkgPath := "", byteOffset := 48 }]), (27, Go.TypeDesc.func #[] #[4] false), (28, Go.TypeDesc.int Go.IntKind.i64), (29, Go.TypeDesc.tuple #[9, 28]), (30, Go.TypeDesc.func #[26] #[9, 28] false), (31, Go.TypeDesc.tuple #[9, 3]), (32, Go.TypeDesc.func #[26] #[9, 3] false), (33, Go.TypeDesc.func #[26, 26] #[4] false), (34, Go.TypeDesc.slice 36), (35, Go.TypeDesc.struct #[{ name := "Op", type := 3, offset := 0, embedded := false, tag := "", pkgPath := "", byteOffset := 0 }, { name := "Num", type := 2, offset := 1, embedded := false, tag := "", pkgPath := "", byteOffset := 8 }, { name := "Name", type := 9, offset := 2, embedded := false, tag := "", pkgPath := "", byteOffset := 16 }, { name := "Kids", type := 34, offset := 3, embedded := false, tag := "", pkgPath := "", byteOffset := 32 }, { name := "Line", type := 3, offset := 4, embedded := false, tag := "", pkgPath := "", byteOffset := 56 }, { name := "Col", type := 3, offset := 5, embedded := false, tag := "", pkgPath := "", byteOffset := 64 }]), (36, Go.TypeDesc.struct #[{ name := "Op", type := 3, offset := 0, embedded := false, tag := "", pkgPath := "", byteOffset := 0 }, { name := "Num", type := 2, offset := 1, embedded := false, tag := "", pkgPath := "", byteOffset := 8 }, { name := "Name", type := 9, offset := 2, embedded := false, tag := "", pkgPath := "", byteOffset := 16 }, { name := "Kids", type := 34, offset := 3, embedded := false, tag := "", pkgPath := "", byteOffset := 32 }, { name := "Line", type := 3, offset := 4, embedded := false, tag := "", pkgPath := "", byteOffset := 56 }, { name := "Col", type := 3, offset := 5, embedded := false, tag := "", pkgPath := "", byteOffset := 64 }]), (37, Go.TypeDesc.func #[36] #[9, 28] false), (38, Go.TypeDesc.func #[36] #[4] false), (39, Go.TypeDesc.func #[36] #[3] false), (40, Go.TypeDesc.func #[3] #[9] false), (41, Go.TypeDesc.func #[26] #[4] false), (42, Go.TypeDesc.pointer 45), (43, Go.TypeDesc.slice 5), (44, Go.TypeDesc.struct #[{ name := "addr", type := 42, offset := 0, embedded := false, tag := "", pkgPath := "strings", byteOffset := 0 }, { name := "buf", type := 43, offset := 1, embedded := false, tag := "", pkgPath := "strings", byteOffset := 8 }]), (45, Go.TypeDesc.struct #[{ name := "addr", type := 42, offset := 0, embedded := false, tag := "", pkgPath := "strings", byteOffset := 0 }, { name := "buf", type := 43, offset := 1, embedded := false, tag := "", pkgPath := "strings", byteOffset := 8 }]), (46, Go.TypeDesc.slice 9), (47, Go.TypeDesc.struct #[{ name := "Name", type := 9, offset := 0, embedded := false, tag := "", pkgPath := "", byteOffset := 0 }, { name := "Values", type := 46, offset := 1, embedded := false, tag := "", pkgPath := "", byteOffset := 16 }, { name := "Line", type := 3, offset := 2, embedded := false, tag := "", pkgPath := "", byteOffset := 40 }, { name := "Col", type := 3, offset := 3, embedded := false, tag := "", pkgPath := "", byteOffset := 48 }]), (48, Go.TypeDesc.struct #[{ name := "Name", type := 9, offset := 0, embedded := false, tag := "", pkgPath := "", byteOffset := 0 }, { name := "Values", type := 46, offset := 1, embedded := false, tag := "", pkgPath := "", byteOffset := 16 }, { name := "Line", type := 3, offset := 2, embedded := false, tag := "", pkgPath := "", byteOffset := 40 }, { name := "Col", type := 3, offset := 3, embedded := false, tag := "", pkgPath := "", byteOffset := 48 }]), (49, Go.TypeDesc.interface #[("Error", 64)]), (50, Go.TypeDesc.interface #[("Error", 64)]), (51, Go.TypeDesc.tuple #[3, 50]), (52, Go.TypeDesc.func #[9] #[3, 50] false), (53, Go.TypeDesc.func #[46, 9] #[9] false), (54, Go.TypeDesc.struct #[{ name := "Name", type := 9, offset := 0, embedded := false, tag := "", pkgPath := "", byteOffset := 0 }, { name := "Type", type := 9, offset := 1, embedded := false, tag := "", pkgPath := "", byteOffset := 16 }, { name := "Low", type := 2, offset := 2, embedded := false, tag := "", pkgPath := "", byteOffset := 32 }, { name := "High", type := 2, offset := 3, embedded := false, tag := "", pkgPath := "", byteOffset := 40 }, { name := "Begins", type := 34, offset := 4, embedded := false, tag := "", pkgPath := "", byteOffset := 48 }, { name := "Line", type := 3, offset := 5, embedded := false, tag := "", pkgPath := "", byteOffset := 72 }, { name := "Col", type := 3, offset := 6, embedded := false, tag := "", pkgPath := "", byteOffset := 80 }]), (55, Go.TypeDesc.struct #[{ name := "Name", type := 9, offset := 0, embedded := false, tag := "", pkgPath := "", byteOffset := 0 }, { name := "Type", type := 9, offset := 1, embedded := false, tag := "", pkgPath := "", byteOffset := 16 }, { name := "Low", type := 2, offset := 2, embedded := false, tag := "", pkgPath := "", byteOffset := 32 }, { name := "High", type := 2, offset := 3, embedded := false, tag := "", pkgPath := "", byteOffset := 40 }, { name := "Begins", type := 34, offset := 4, embedded := false, tag := "", pkgPath := "", byteOffset := 48 }, { name := "Line", type := 3, offset := 5, embedded := false, tag := "", pkgPath := "", byteOffset := 72 }, { name := "Col", type := 3, offset := 6, embedded := false, tag := "", pkgPath := "", byteOffset := 80 }]), (56, Go.TypeDesc.func #[55] #[9] false), (57, Go.TypeDesc.slice 62), (58, Go.TypeDesc.struct #[{ name := "Name", type := 9, offset := 0, embedded := false, tag := "", pkgPath := "", byteOffset := 0 }, { name := "Rules", type := 57, offset := 1, embedded := false, tag := "", pkgPath := "", byteOffset := 16 }, { name := "Line", type := 3, offset := 2, embedded := false, tag := "", pkgPath := "", byteOffset := 40 }, { name := "Col", type := 3, offset := 3, embedded := false, tag := "", pkgPath := "", byteOffset := 48 }]), (59, Go.TypeDesc.struct #[{ name := "Name", type := 9, offset := 0, embedded := false, tag := "", pkgPath := "", byteOffset := 0 }, { name := "Rules", type := 57, offset := 1, embedded := false, tag := "", pkgPath := "", byteOffset := 16 }, { name := "Line", type := 3, offset := 2, embedded := false, tag := "", pkgPath := "", byteOffset := 40 }, { name := "Col", type := 3, offset := 3, embedded := false, tag := "", pkgPath := "", byteOffset := 48 }]), (60, Go.TypeDesc.slice 78), (61, Go.TypeDesc.struct #[{ name := "When", type := 36, offset := 0, embedded := false, tag := "", pkgPath := "", byteOffset := 0 }, { name := "Do", type := 60, offset := 6, embedded := false, tag := "", pkgPath := "", byteOffset := 72 }]), (62, Go.TypeDesc.struct #[{ name := "When", type := 36, offset := 0, embedded := false, tag := "", pkgPath := "", byteOffset := 0 }, { name := "Do", type := 60, offset := 6, embedded := false, tag := "", pkgPath := "", byteOffset := 72 }]), (63, Go.TypeDesc.func #[62] #[9] false), (64, Go.TypeDesc.func #[] #[9] false), (65, Go.TypeDesc.tuple #[9, 4]), (66, Go.TypeDesc.func #[48] #[9, 4] false), (67, Go.TypeDesc.func #[55] #[9, 4] false), (68, Go.TypeDesc.func #[9] #[4] false), (69, Go.TypeDesc.func #[62] #[9, 4] false), (70, Go.TypeDesc.func #[22, 22, 72] #[4] false), (71, Go.TypeDesc.func #[46, 46] #[4] false), (72, Go.TypeDesc.func #[48, 48] #[4] false), (73, Go.TypeDesc.func #[23, 23, 76] #[4] false), (74, Go.TypeDesc.func #[34, 34, 75] #[4] false), (75, Go.TypeDesc.func #[36, 36] #[4] false), (76, Go.TypeDesc.func #[55, 55] #[4] false), (77, Go.TypeDesc.struct #[{ name := "Name", type := 9, offset := 0, embedded := false, tag := "", pkgPath := "", byteOffset := 0 }, { name := "To", type := 36, offset := 1, embedded := false, tag := "", pkgPath := "", byteOffset := 16 }, { name := "Line", type := 3, offset := 7, embedded := false, tag := "", pkgPath := "", byteOffset := 88 }, { name := "Col", type := 3, offset := 8, embedded := false, tag := "", pkgPath := "", byteOffset := 96 }]), (78, Go.TypeDesc.struct #[{ name := "Name", type := 9, offset := 0, embedded := false, tag := "", pkgPath := "", byteOffset := 0 }, { name := "To", type := 36, offset := 1, embedded := false, tag := "", pkgPath := "", byteOffset := 16 }, { name := "Line", type := 3, offset := 7, embedded := false, tag := "", pkgPath := "", byteOffset := 88 }, { name := "Col", type := 3, offset := 8, embedded := false, tag := "", pkgPath := "", byteOffset := 96 }]), (79, Go.TypeDesc.func #[78, 78] #[4] false), (80, Go.TypeDesc.func #[60, 60, 79] #[4] false), (81, Go.TypeDesc.func #[62, 62] #[4] false), (82, Go.TypeDesc.func #[24, 24, 84] #[4] false), (83, Go.TypeDesc.func #[57, 57, 81] #[4] false), (84, Go.TypeDesc.func #[59, 59] #[4] false), (85, Go.TypeDesc.func #[60, 60] #[4] false), (86, Go.TypeDesc.func #[36] #[9] false), (87, Go.TypeDesc.func #[36, 3] #[4] false), (88, Go.TypeDesc.array 26 9), (89, Go.TypeDesc.func #[3, 3] #[4] false), (90, Go.TypeDesc.func #[22, 91] #[4] false), (91, Go.TypeDesc.func #[48] #[4] false), (92, Go.TypeDesc.func #[23, 93] #[4] false), (93, Go.TypeDesc.func #[55] #[4] false), (94, Go.TypeDesc.func #[24, 95] #[4] false), (95, Go.TypeDesc.func #[59] #[4] false), (96, Go.TypeDesc.func #[3] #[] false), (97, Go.TypeDesc.func #[2, 3] #[9] false), (98, Go.TypeDesc.pointer 5), (99, Go.TypeDesc.func #[2] #[4] false), (100, Go.TypeDesc.func #[5] #[4] false), (101, Go.TypeDesc.func #[4] #[9] false), (102, Go.TypeDesc.func #[3] #[3] false), (103, Go.TypeDesc.func #[34, 38] #[4] false), (104, Go.TypeDesc.func #[22, 91] #[3] false), (105, Go.TypeDesc.func #[46, 68] #[4] false), (106, Go.TypeDesc.func #[23, 93] #[3] false), (107, Go.TypeDesc.func #[24, 95] #[3] false), (108, Go.TypeDesc.func #[57, 109] #[4] false), (109, Go.TypeDesc.func #[62] #[4] false), (110, Go.TypeDesc.unsafePointer), (111, Go.TypeDesc.func #[110] #[110] false), (112, Go.TypeDesc.func #[9, 46] #[4] false), (113, Go.TypeDesc.func #[34, 38] #[3] false), (114, Go.TypeDesc.func #[9, 100] #[3] false), (115, Go.TypeDesc.func #[46, 68] #[3] false), (116, Go.TypeDesc.func #[57, 109] #[3] false), (117, Go.TypeDesc.func #[60, 118] #[4] false), (118, Go.TypeDesc.func #[78] #[4] false), (119, Go.TypeDesc.func #[3] #[43] false), (120, Go.TypeDesc.array 24 5), (121, Go.TypeDesc.int Go.IntKind.u64), (122, Go.TypeDesc.func #[121] #[3] false), (123, Go.TypeDesc.func #[43, 121] #[] false), (124, Go.TypeDesc.tuple #[43, 9]), (125, Go.TypeDesc.func #[43, 121, 3, 4, 4] #[43, 9] false), (126, Go.TypeDesc.func #[60, 118] #[3] false), (127, Go.TypeDesc.func #[4] #[3] false), (128, Go.TypeDesc.array 20 121), (129, Go.TypeDesc.int Go.IntKind.u32), (130, Go.TypeDesc.array 65 5), (131, Go.TypeDesc.func #[3] #[4] false), (132, Go.TypeDesc.int Go.IntKind.u64), (133, Go.TypeDesc.func #[132] #[3] false), (134, Go.TypeDesc.func #[129] #[3] false), (135, Go.TypeDesc.array 32 5), (136, Go.TypeDesc.array 64 5), (137, Go.TypeDesc.struct #[{ name := "_interface", type := 17, offset := 0, embedded := false, tag := "", pkgPath := "runtime", byteOffset := 0 }, { name := "concrete", type := 17, offset := 1, embedded := false, tag := "", pkgPath := "runtime", byteOffset := 8 }, { name := "asserted", type := 17, offset := 2, embedded := false, tag := "", pkgPath := "runtime", byteOffset := 16 }, { name := "missingMethod", type := 9, offset := 3, embedded := false, tag := "", pkgPath := "runtime", byteOffset := 24 }]), (138, Go.TypeDesc.struct #[{ name := "_interface", type := 17, offset := 0, embedded := false, tag := "", pkgPath := "runtime", byteOffset := 0 }, { name := "concrete", type := 17, offset := 1, embedded := false, tag := "", pkgPath := "runtime", byteOffset := 8 }, { name := "asserted", type := 17, offset := 2, embedded := false, tag := "", pkgPath := "runtime", byteOffset := 16 }, { name := "missingMethod", type := 9, offset := 3, embedded := false, tag := "", pkgPath := "runtime", byteOffset := 24 }]), (139, Go.TypeDesc.array 0 16), (140, Go.TypeDesc.struct #[{ name := "_", type := 139, offset := 0, embedded := false, tag := "", pkgPath := "runtime", byteOffset := 0 }]), (141, Go.TypeDesc.struct #[{ name := "_", type := 139, offset := 0, embedded := false, tag := "", pkgPath := "runtime", byteOffset := 0 }]), (142, Go.TypeDesc.func #[] #[3] false), (143, Go.TypeDesc.int Go.IntKind.u8), (144, Go.TypeDesc.int Go.IntKind.u8), (145, Go.TypeDesc.func #[110, 110] #[4] false), (146, Go.TypeDesc.int Go.IntKind.i32), (147, Go.TypeDesc.int Go.IntKind.i32), (148, Go.TypeDesc.struct #[{ name := "Size_", type := 12, offset := 0, embedded := false, tag := "", pkgPath := "", byteOffset := 0 }, { name := "PtrBytes", type := 12, offset := 1, embedded := false, tag := "", pkgPath := "", byteOffset := 8 }, { name := "Hash", type := 129, offset := 2, embedded := false, tag := "", pkgPath := "", byteOffset := 16 }, { name := "TFlag", type := 143, offset := 3, embedded := false, tag := "", pkgPath := "", byteOffset := 20 }, { name := "Align_", type := 5, offset := 4, embedded := false, tag := "", pkgPath := "", byteOffset := 21 }, { name := "FieldAlign_", type := 5, offset := 5, embedded := false, tag := "", pkgPath := "", byteOffset := 22 }, { name := "Kind_", type := 144, offset := 6, embedded := false, tag := "", pkgPath := "", byteOffset := 23 }, { name := "Equal", type := 145, offset := 7, embedded := false, tag := "", pkgPath := "", byteOffset := 24 }, { name := "GCData", type := 98, offset := 8, embedded := false, tag := "", pkgPath := "", byteOffset := 32 }, { name := "Str", type := 146, offset := 9, embedded := false, tag := "", pkgPath := "", byteOffset := 40 }, { name := "PtrToThis", type := 147, offset := 10, embedded := false, tag := "", pkgPath := "", byteOffset := 44 }]), (149, Go.TypeDesc.struct #[{ name := "Size_", type := 12, offset := 0, embedded := false, tag := "", pkgPath := "", byteOffset := 0 }, { name := "PtrBytes", type := 12, offset := 1, embedded := false, tag := "", pkgPath := "", byteOffset := 8 }, { name := "Hash", type := 129, offset := 2, embedded := false, tag := "", pkgPath := "", byteOffset := 16 }, { name := "TFlag", type := 143, offset := 3, embedded := false, tag := "", pkgPath := "", byteOffset := 20 }, { name := "Align_", type := 5, offset := 4, embedded := false, tag := "", pkgPath := "", byteOffset := 21 }, { name := "FieldAlign_", type := 5, offset := 5, embedded := false, tag := "", pkgPath := "", byteOffset := 22 }, { name := "Kind_", type := 144, offset := 6, embedded := false, tag := "", pkgPath := "", byteOffset := 23 }, { name := "Equal", type := 145, offset := 7, embedded := false, tag := "", pkgPath := "", byteOffset := 24 }, { name := "GCData", type := 98, offset := 8, embedded := false, tag := "", pkgPath := "", byteOffset := 32 }, { name := "Str", type := 146, offset := 9, embedded := false, tag := "", pkgPath := "", byteOffset := 40 }, { name := "PtrToThis", type := 147, offset := 10, embedded := false, tag := "", pkgPath := "", byteOffset := 44 }])]
def tabS : List (Nat × Nat) := [(0, 1), (1, 1), (2, 1), (3, 1), (4, 1), (5, 1), (6, 1), (7, 4), (8, 4), (9, 1), (10, 1), (11, 1), (12, 1), (13, 2), (14, 2), (15, 1), (16, 1), (17, 1), (18, 1), (19, 1), (20, 1), (21, 1), (22, 1), (23, 1), (24, 1), (25, 3), (26, 3), (27, 1), (28, 1), (29, 1), (30, 1), (31, 1), (32, 1), (33, 1), (34, 1), (35, 6), (36, 6), (37, 1), (38, 1), (39, 1), (40, 1), (41, 1), (42, 1), (43, 1), (44, 2), (45, 2), (46, 1), (47, 4), (48, 4), (49, 1), (50, 1), (51, 1), (52, 1), (53, 1), (54, 7), (55, 7), (56, 1), (57, 1), (58, 4), (59, 4), (60, 1), (61, 7), (62, 7), (63, 1), (64, 1), (65, 1), (66, 1), (67, 1), (68, 1), (69, 1), (70, 1), (71, 1), (72, 1), (73, 1), (74, 1), (75, 1), (76, 1), (77, 9), (78, 9), (79, 1), (80, 1), (81, 1), (82, 1), (83, 1), (84, 1), (85, 1), (86, 1), (87, 1), (88, 26), (89, 1), (90, 1), (91, 1), (92, 1), (93, 1), (94, 1), (95, 1), (96, 1), (97, 1), (98, 1), (99, 1), (100, 1), (101, 1), (102, 1), (103, 1), (104, 1), (105, 1), (106, 1), (107, 1), (108, 1), (109, 1), (110, 1), (111, 1), (112, 1), (113, 1), (114, 1), (115, 1), (116, 1), (117, 1), (118, 1), (119, 1), (120, 24), (121, 1), (122, 1), (123, 1), (124, 1), (125, 1), (126, 1), (127, 1), (128, 20), (129, 1), (130, 65), (131, 1), (132, 1), (133, 1), (134, 1), (135, 32), (136, 64), (137, 4), (138, 4), (139, 0), (140, 0), (141, 0), (142, 1), (143, 1), (144, 1), (145, 1), (146, 1), (147, 1), (148, 11), (149, 11)]
def tabB : List (Nat × Nat) := [(0, 0), (1, 8), (2, 8), (3, 8), (4, 1), (5, 1), (6, 1), (7, 24), (8, 24), (9, 16), (10, 16), (11, 16), (12, 8), (13, 24), (14, 24), (15, 8), (16, 8), (17, 8), (18, 8), (19, 8), (20, 16), (21, 4), (22, 24), (23, 24), (24, 24), (25, 72), (26, 72), (27, 8), (28, 8), (29, 0), (30, 8), (31, 0), (32, 8), (33, 8), (34, 24), (35, 72), (36, 72), (37, 8), (38, 8), (39, 8), (40, 8), (41, 8), (42, 8), (43, 24), (44, 32), (45, 32), (46, 24), (47, 56), (48, 56), (49, 16), (50, 16), (51, 0), (52, 8), (53, 8), (54, 88), (55, 88), (56, 8), (57, 24), (58, 56), (59, 56), (60, 24), (61, 96), (62, 96), (63, 8), (64, 8), (65, 0), (66, 8), (67, 8), (68, 8), (69, 8), (70, 8), (71, 8), (72, 8), (73, 8), (74, 8), (75, 8), (76, 8), (77, 104), (78, 104), (79, 8), (80, 8), (81, 8), (82, 8), (83, 8), (84, 8), (85, 8), (86, 8), (87, 8), (88, 416), (89, 8), (90, 8), (91, 8), (92, 8), (93, 8), (94, 8), (95, 8), (96, 8), (97, 8), (98, 8), (99, 8), (100, 8), (101, 8), (102, 8), (103, 8), (104, 8), (105, 8), (106, 8), (107, 8), (108, 8), (109, 8), (110, 8), (111, 8), (112, 8), (113, 8), (114, 8), (115, 8), (116, 8), (117, 8), (118, 8), (119, 8), (120, 24), (121, 8), (122, 8), (123, 8), (124, 0), (125, 8), (126, 8), (127, 8), (128, 160), (129, 4), (130, 65), (131, 8), (132, 8), (133, 8), (134, 8), (135, 32), (136, 64), (137, 40), (138, 40), (139, 0), (140, 0), (141, 0), (142, 8), (143, 1), (144, 1), (145, 8), (146, 4), (147, 4), (148, 48), (149, 48)]
def tabZ : List (Nat × Value) := [(0, (Go.Value.tuple #[])), (1, Go.Value.nilFunc), (2, (Go.Value.int Go.IntKind.i64 0)), (3, (Go.Value.int Go.IntKind.i64 0)), (4, (Go.Value.bool false)), (5, (Go.Value.int Go.IntKind.u8 0)), (6, (Go.Value.int Go.IntKind.u8 0)), (7, (Go.Value.agg #[Go.Value.int Go.IntKind.i64 0, Go.Value.int Go.IntKind.i64 0, Go.Value.bool false, Go.Value.int Go.IntKind.u8 0])), (8, (Go.Value.agg #[Go.Value.int Go.IntKind.i64 0, Go.Value.int Go.IntKind.i64 0, Go.Value.bool false, Go.Value.int Go.IntKind.u8 0])), (9, (Go.Value.string { data := #[] })), (10, (Go.Value.string { data := #[] })), (11, (Go.Value.string { data := #[] })), (12, (Go.Value.int Go.IntKind.u64 0)), (13, (Go.Value.agg #[Go.Value.string { data := #[] }, Go.Value.int Go.IntKind.u64 0])), (14, (Go.Value.agg #[Go.Value.string { data := #[] }, Go.Value.int Go.IntKind.u64 0])), (15, (Go.Value.pointer none)), (16, (Go.Value.pointer none)), (17, (Go.Value.pointer none)), (18, (Go.Value.agg #[Go.Value.pointer none])), (19, (Go.Value.agg #[Go.Value.pointer none])), (20, Go.Value.nilIface), (21, (Go.Value.int Go.IntKind.i32 0)), (22, (Go.Value.slice none 0 0)), (23, (Go.Value.slice none 0 0)), (24, (Go.Value.slice none 0 0)), (25, (Go.Value.agg #[Go.Value.slice none 0 0, Go.Value.slice none 0 0, Go.Value.slice none 0 0])), (26, (Go.Value.agg #[Go.Value.slice none 0 0, Go.Value.slice none 0 0, Go.Value.slice none 0 0])), (27, Go.Value.nilFunc), (28, (Go.Value.int Go.IntKind.i64 0)), (29, (Go.Value.tuple #[Go.Value.string { data := #[] }, Go.Value.int Go.IntKind.i64 0])), (30, Go.Value.nilFunc), (31, (Go.Value.tuple #[Go.Value.string { data := #[] }, Go.Value.int Go.IntKind.i64 0])), (32, Go.Value.nilFunc), (33, Go.Value.nilFunc), (34, (Go.Value.slice none 0 0)), (35, (Go.Value.agg #[Go.Value.int Go.IntKind.i64 0, Go.Value.int Go.IntKind.i64 0, Go.Value.string { data := #[] }, Go.Value.slice none 0 0, Go.Value.int Go.IntKind.i64 0, Go.Value.int Go.IntKind.i64 0])), (36, (Go.Value.agg #[Go.Value.int Go.IntKind.i64 0, Go.Value.int Go.IntKind.i64 0, Go.Value.string { data := #[] }, Go.Value.slice none 0 0, Go.Value.int Go.IntKind.i64 0, Go.Value.int Go.IntKind.i64 0])), (37, Go.Value.nilFunc), (38, Go.Value.nilFunc), (39, Go.Value.nilFunc), (40, Go.Value.nilFunc), (41, Go.Value.nilFunc), (42, (Go.Value.pointer none)), (43, (Go.Value.slice none 0 0)), (44, (Go.Value.agg #[Go.Value.pointer none, Go.Value.slice none 0 0])), (45, (Go.Value.agg #[Go.Value.pointer none, Go.Value.slice none 0 0])), (46, (Go.Value.slice none 0 0)), (47, (Go.Value.agg #[Go.Value.string { data := #[] }, Go.Value.slice none 0 0, Go.Value.int Go.IntKind.i64 0, Go.Value.int Go.IntKind.i64 0])), (48, (Go.Value.agg #[Go.Value.string { data := #[] }, Go.Value.slice none 0 0, Go.Value.int Go.IntKind.i64 0, Go.Value.int Go.IntKind.i64 0])), (49, Go.Value.nilIface), (50, Go.Value.nilIface), (51, (Go.Value.tuple #[Go.Value.int Go.IntKind.i64 0, Go.Value.nilIface])), (52, Go.Value.nilFunc), (53, Go.Value.nilFunc), (54, (Go.Value.agg #[Go.Value.string { data := #[] }, Go.Value.string { data := #[] }, Go.Value.int Go.IntKind.i64 0, Go.Value.int Go.IntKind.i64 0, Go.Value.slice none 0 0, Go.Value.int Go.IntKind.i64 0, Go.Value.int Go.IntKind.i64 0])), (55, (Go.Value.agg #[Go.Value.string { data := #[] }, Go.Value.string { data := #[] }, Go.Value.int Go.IntKind.i64 0, Go.Value.int Go.IntKind.i64 0, Go.Value.slice none 0 0, Go.Value.int Go.IntKind.i64 0, Go.Value.int Go.IntKind.i64 0])), (56, Go.Value.nilFunc), (57, (Go.Value.slice none 0 0)), (58, (Go.Value.agg #[Go.Value.string { data := #[] }, Go.Value.slice none 0 0, Go.Value.int Go.IntKind.i64 0, Go.Value.int Go.IntKind.i64 0])), (59, (Go.Value.agg #[Go.Value.string { data := #[] }, Go.Value.slice none 0 0, Go.Value.int Go.IntKind.i64 0, Go.Value.int Go.IntKind.i64 0])), (60, (Go.Value.slice none 0 0)), (61, (Go.Value.agg #[Go.Value.int Go.IntKind.i64 0, Go.Value.int Go.IntKind.i64 0, Go.Value.string { data := #[] }, Go.Value.slice none 0 0, Go.Value.int Go.IntKind.i64 0, Go.Value.int Go.IntKind.i64 0, Go.Value.slice none 0 0])), (62, (Go.Value.agg #[Go.Value.int Go.IntKind.i64 0, Go.Value.int Go.IntKind.i64 0, Go.Value.string { data := #[] }, Go.Value.slice none 0 0, Go.Value.int Go.IntKind.i64 0, Go.Value.int Go.IntKind.i64 0, Go.Value.slice none 0 0])), (63, Go.Value.nilFunc), (64, Go.Value.nilFunc), (65, (Go.Value.tuple #[Go.Value.string { data := #[] }, Go.Value.bool false])), (66, Go.Value.nilFunc), (67, Go.Value.nilFunc), (68, Go.Value.nilFunc), (69, Go.Value.nilFunc), (70, Go.Value.nilFunc), (71, Go.Value.nilFunc), (72, Go.Value.nilFunc), (73, Go.Value.nilFunc), (74, Go.Value.nilFunc), (75, Go.Value.nilFunc), (76, Go.Value.nilFunc), (77, (Go.Value.agg #[Go.Value.string { data := #[] }, Go.Value.int Go.IntKind.i64 0, Go.Value.int Go.IntKind.i64 0, Go.Value.string { data := #[] }, Go.Value.slice none 0 0, Go.Value.int Go.IntKind.i64 0, Go.Value.int Go.IntKind.i64 0, Go.Value.int Go.IntKind.i64 0, Go.Value.int Go.IntKind.i64 0])), (78, (Go.Value.agg #[Go.Value.string { data := #[] }, Go.Value.int Go.IntKind.i64 0, Go.Value.int Go.IntKind.i64 0, Go.Value.string { data := #[] }, Go.Value.slice none 0 0, Go.Value.int Go.IntKind.i64 0, Go.Value.int Go.IntKind.i64 0, Go.Value.int Go.IntKind.i64 0, Go.Value.int Go.IntKind.i64 0])), (79, Go.Value.nilFunc), (80, Go.Value.nilFunc), (81, Go.Value.nilFunc), (82, Go.Value.nilFunc), (83, Go.Value.nilFunc), (84, Go.Value.nilFunc), (85, Go.Value.nilFunc), (86, Go.Value.nilFunc), (87, Go.Value.nilFunc), (88, (Go.Value.agg #[Go.Value.string { data := #[] }, Go.Value.string { data := #[] }, Go.Value.string { data := #[] }, Go.Value.string { data := #[] }, Go.Value.string { data := #[] }, Go.Value.string { data := #[] }, Go.Value.string { data := #[] }, Go.Value.string { data := #[] }, Go.Value.string { data := #[] }, Go.Value.string { data := #[] }, Go.Value.string { data := #[] }, Go.Value.string { data := #[] }, Go.Value.string { data := #[] }, Go.Value.string { data := #[] }, Go.Value.string { data := #[] }, Go.Value.string { data := #[] }, Go.Value.string { data := #[] }, Go.Value.string { data := #[] }, Go.Value.string { data := #[] }, Go.Value.string { data := #[] }, Go.Value.string { data := #[] }, Go.Value.string { data := #[] }, Go.Value.string { data := #[] }, Go.Value.string { data := #[] }, Go.Value.string { data := #[] }, Go.Value.string { data := #[] }])), (89, Go.Value.nilFunc), (90, Go.Value.nilFunc), (91, Go.Value.nilFunc), (92, Go.Value.nilFunc), (93, Go.Value.nilFunc), (94, Go.Value.nilFunc), (95, Go.Value.nilFunc), (96, Go.Value.nilFunc), (97, Go.Value.nilFunc), (98, (Go.Value.pointer none)), (99, Go.Value.nilFunc), (100, Go.Value.nilFunc), (101, Go.Value.nilFunc), (102, Go.Value.nilFunc), (103, Go.Value.nilFunc), (104, Go.Value.nilFunc), (105, Go.Value.nilFunc), (106, Go.Value.nilFunc), (107, Go.Value.nilFunc), (108, Go.Value.nilFunc), (109, Go.Value.nilFunc), (110, (Go.Value.pointer none)), (111, Go.Value.nilFunc), (112, Go.Value.nilFunc), (113, Go.Value.nilFunc), (114, Go.Value.nilFunc), (115, Go.Value.nilFunc), (116, Go.Value.nilFunc), (117, Go.Value.nilFunc), (118, Go.Value.nilFunc), (119, Go.Value.nilFunc), (120, (Go.Value.agg #[Go.Value.int Go.IntKind.u8 0, Go.Value.int Go.IntKind.u8 0, Go.Value.int Go.IntKind.u8 0, Go.Value.int Go.IntKind.u8 0, Go.Value.int Go.IntKind.u8 0, Go.Value.int Go.IntKind.u8 0, Go.Value.int Go.IntKind.u8 0, Go.Value.int Go.IntKind.u8 0, Go.Value.int Go.IntKind.u8 0, Go.Value.int Go.IntKind.u8 0, Go.Value.int Go.IntKind.u8 0, Go.Value.int Go.IntKind.u8 0, Go.Value.int Go.IntKind.u8 0, Go.Value.int Go.IntKind.u8 0, Go.Value.int Go.IntKind.u8 0, Go.Value.int Go.IntKind.u8 0, Go.Value.int Go.IntKind.u8 0, Go.Value.int Go.IntKind.u8 0, Go.Value.int Go.IntKind.u8 0, Go.Value.int Go.IntKind.u8 0, Go.Value.int Go.IntKind.u8 0, Go.Value.int Go.IntKind.u8 0, Go.Value.int Go.IntKind.u8 0, Go.Value.int Go.IntKind.u8 0])), (121, (Go.Value.int Go.IntKind.u64 0)), (122, Go.Value.nilFunc), (123, Go.Value.nilFunc), (124, (Go.Value.tuple #[Go.Value.slice none 0 0, Go.Value.string { data := #[] }])), (125, Go.Value.nilFunc), (126, Go.Value.nilFunc), (127, Go.Value.nilFunc), (128, (Go.Value.agg #[Go.Value.int Go.IntKind.u64 0, Go.Value.int Go.IntKind.u64 0, Go.Value.int Go.IntKind.u64 0, Go.Value.int Go.IntKind.u64 0, Go.Value.int Go.IntKind.u64 0, Go.Value.int Go.IntKind.u64 0, Go.Value.int Go.IntKind.u64 0, Go.Value.int Go.IntKind.u64 0, Go.Value.int Go.IntKind.u64 0, Go.Value.int Go.IntKind.u64 0, Go.Value.int Go.IntKind.u64 0, Go.Value.int Go.IntKind.u64 0, Go.Value.int Go.IntKind.u64 0, Go.Value.int Go.IntKind.u64 0, Go.Value.int Go.IntKind.u64 0, Go.Value.int Go.IntKind.u64 0, Go.Value.int Go.IntKind.u64 0, Go.Value.int Go.IntKind.u64 0, Go.Value.int Go.IntKind.u64 0, Go.Value.int Go.IntKind.u64 0])), (129, (Go.Value.int Go.IntKind.u32 0)), (131, Go.Value.nilFunc), (132, (Go.Value.int Go.IntKind.u64 0)), (133, Go.Value.nilFunc), (134, Go.Value.nilFunc), (135, (Go.Value.agg #[Go.Value.int Go.IntKind.u8 0, Go.Value.int Go.IntKind.u8 0, Go.Value.int Go.IntKind.u8 0, Go.Value.int Go.IntKind.u8 0, Go.Value.int Go.IntKind.u8 0, Go.Value.int Go.IntKind.u8 0, Go.Value.int Go.IntKind.u8 0, Go.Value.int Go.IntKind.u8 0, Go.Value.int Go.IntKind.u8 0, Go.Value.int Go.IntKind.u8 0, Go.Value.int Go.IntKind.u8 0, Go.Value.int Go.IntKind.u8 0, Go.Value.int Go.IntKind.u8 0, Go.Value.int Go.IntKind.u8 0, Go.Value.int Go.IntKind.u8 0, Go.Value.int Go.IntKind.u8 0, Go.Value.int Go.IntKind.u8 0, Go.Value.int Go.IntKind.u8 0, Go.Value.int Go.IntKind.u8 0, Go.Value.int Go.IntKind.u8 0, Go.Value.int Go.IntKind.u8 0, Go.Value.int Go.IntKind.u8 0, Go.Value.int Go.IntKind.u8 0, Go.Value.int Go.IntKind.u8 0, Go.Value.int Go.IntKind.u8 0, Go.Value.int Go.IntKind.u8 0, Go.Value.int Go.IntKind.u8 0, Go.Value.int Go.IntKind.u8 0, Go.Value.int Go.IntKind.u8 0, Go.Value.int Go.IntKind.u8 0, Go.Value.int Go.IntKind.u8 0, Go.Value.int Go.IntKind.u8 0])), (136, (Go.Value.agg #[Go.Value.int Go.IntKind.u8 0, Go.Value.int Go.IntKind.u8 0, Go.Value.int Go.IntKind.u8 0, Go.Value.int Go.IntKind.u8 0, Go.Value.int Go.IntKind.u8 0, Go.Value.int Go.IntKind.u8 0, Go.Value.int Go.IntKind.u8 0, Go.Value.int Go.IntKind.u8 0, Go.Value.int Go.IntKind.u8 0, Go.Value.int Go.IntKind.u8 0, Go.Value.int Go.IntKind.u8 0, Go.Value.int Go.IntKind.u8 0, Go.Value.int Go.IntKind.u8 0, Go.Value.int Go.IntKind.u8 0, Go.Value.int Go.IntKind.u8 0, Go.Value.int Go.IntKind.u8 0, Go.Value.int Go.IntKind.u8 0, Go.Value.int Go.IntKind.u8 0, Go.Value.int Go.IntKind.u8 0, Go.Value.int Go.IntKind.u8 0, Go.Value.int Go.IntKind.u8 0, Go.Value.int Go.IntKind.u8 0, Go.Value.int Go.IntKind.u8 0, Go.Value.int Go.IntKind.u8 0, Go.Value.int Go.IntKind.u8 0, Go.Value.int Go.IntKind.u8 0, Go.Value.int Go.IntKind.u8 0, Go.Value.int Go.IntKind.u8 0, Go.Value.int Go.IntKind.u8 0, Go.Value.int Go.IntKind.u8 0, Go.Value.int Go.IntKind.u8 0, Go.Value.int Go.IntKind.u8 0, Go.Value.int Go.IntKind.u8 0, Go.Value.int Go.IntKind.u8 0, Go.Value.int Go.IntKind.u8 0, Go.Value.int Go.IntKind.u8 0, Go.Value.int Go.IntKind.u8 0, Go.Value.int Go.IntKind.u8 0, Go.Value.int Go.IntKind.u8 0, Go.Value.int Go.IntKind.u8 0, Go.Value.int Go.IntKind.u8 0, Go.Value.int Go.IntKind.u8 0, Go.Value.int Go.IntKind.u8 0, Go.Value.int Go.IntKind.u8 0, Go.Value.int Go.IntKind.u8 0, Go.Value.int Go.IntKind.u8 0, Go.Value.int Go.IntKind.u8 0, Go.Value.int Go.IntKind.u8 0, Go.Value.int Go.IntKind.u8 0, Go.Value.int Go.IntKind.u8 0, Go.Value.int Go.IntKind.u8 0, Go.Value.int Go.IntKind.u8 0, Go.Value.int Go.IntKind.u8 0, Go.Value.int Go.IntKind.u8 0, Go.Value.int Go.IntKind.u8 0, Go.Value.int Go.IntKind.u8 0, Go.Value.int Go.IntKind.u8 0, Go.Value.int Go.IntKind.u8 0, Go.Value.int Go.IntKind.u8 0, Go.Value.int Go.IntKind.u8 0, Go.Value.int Go.IntKind.u8 0, Go.Value.int Go.IntKind.u8 0, Go.Value.int Go.IntKind.u8 0, Go.Value.int Go.IntKind.u8 0])), (137, (Go.Value.agg #[Go.Value.pointer none, Go.Value.pointer none, Go.Value.pointer none, Go.Value.string { data := #[] }])), (138, (Go.Value.agg #[Go.Value.pointer none, Go.Value.pointer none, Go.Value.pointer none, Go.Value.string { data := #[] }])), (139, (Go.Value.agg #[])), (140, (Go.Value.agg #[])), (141, (Go.Value.agg #[])), (142, Go.Value.nilFunc), (143, (Go.Value.int Go.IntKind.u8 0)), (144, (Go.Value.int Go.IntKind.u8 0)), (145, Go.Value.nilFunc), (146, (Go.Value.int Go.IntKind.i32 0)), (147, (Go.Value.int Go.IntKind.i32 0)), (148, (Go.Value.agg #[Go.Value.int Go.IntKind.u64 0, Go.Value.int Go.IntKind.u64 0, Go.Value.int Go.IntKind.u32 0, Go.Value.int Go.IntKind.u8 0, Go.Value.int Go.IntKind.u8 0, Go.Value.int Go.IntKind.u8 0, Go.Value.int Go.IntKind.u8 0, Go.Value.nilFunc, Go.Value.pointer none, Go.Value.int Go.IntKind.i32 0, Go.Value.int Go.IntKind.i32 0])), (149, (Go.Value.agg #[Go.Value.int Go.IntKind.u64 0, Go.Value.int Go.IntKind.u64 0, Go.Value.int Go.IntKind.u32 0, Go.Value.int Go.IntKind.u8 0, Go.Value.int Go.IntKind.u8 0, Go.Value.int Go.IntKind.u8 0, Go.Value.int Go.IntKind.u8 0, Go.Value.nilFunc, Go.Value.pointer none, Go.Value.int Go.IntKind.i32 0, Go.Value.int Go.IntKind.i32 0]))]
def tab : Tab := ⟨tabD, tabS, tabB, tabZ⟩

theorem tabD_ok : ∀ x ∈ tabD, Tryz.prog.underlying x.1 = some x.2 := by
  refine all_cons (Tryz.underlying0) ?_
  refine all_cons (Tryz.underlying1) ?_
  refine all_cons (Tryz.underlying2) ?_
  refine all_cons (Tryz.underlying3) ?_
  refine all_cons (Tryz.underlying4) ?_
  refine all_cons (Tryz.underlying5) ?_
  refine all_cons (Tryz.underlying6) ?_
  refine all_cons (Tryz.underlying7) ?_
  refine all_cons (Tryz.underlying8) ?_
  refine all_cons (Tryz.underlying9) ?_
  refine all_cons (Tryz.underlying10) ?_
  refine all_cons (Tryz.underlying11) ?_
  refine all_cons (Tryz.underlying12) ?_
  refine all_cons (Tryz.underlying13) ?_
  refine all_cons (Tryz.underlying14) ?_
  refine all_cons (Tryz.underlying15) ?_
  refine all_cons (Tryz.underlying16) ?_
  refine all_cons (Tryz.underlying17) ?_
  refine all_cons (Tryz.underlying18) ?_
  refine all_cons (Tryz.underlying19) ?_
  refine all_cons (Tryz.underlying20) ?_
  refine all_cons (Tryz.underlying21) ?_
  refine all_cons (Tryz.underlying22) ?_
  refine all_cons (Tryz.underlying23) ?_
  refine all_cons (Tryz.underlying24) ?_
  refine all_cons (Tryz.underlying25) ?_
  refine all_cons (Tryz.underlying26) ?_
  refine all_cons (Tryz.underlying27) ?_
  refine all_cons (Tryz.underlying28) ?_
  refine all_cons (Tryz.underlying29) ?_
  refine all_cons (Tryz.underlying30) ?_
  refine all_cons (Tryz.underlying31) ?_
  refine all_cons (Tryz.underlying32) ?_
  refine all_cons (Tryz.underlying33) ?_
  refine all_cons (Tryz.underlying34) ?_
  refine all_cons (Tryz.underlying35) ?_
  refine all_cons (Tryz.underlying36) ?_
  refine all_cons (Tryz.underlying37) ?_
  refine all_cons (Tryz.underlying38) ?_
  refine all_cons (Tryz.underlying39) ?_
  refine all_cons (Tryz.underlying40) ?_
  refine all_cons (Tryz.underlying41) ?_
  refine all_cons (Tryz.underlying42) ?_
  refine all_cons (Tryz.underlying43) ?_
  refine all_cons (Tryz.underlying44) ?_
  refine all_cons (Tryz.underlying45) ?_
  refine all_cons (Tryz.underlying46) ?_
  refine all_cons (Tryz.underlying47) ?_
  refine all_cons (Tryz.underlying48) ?_
  refine all_cons (Tryz.underlying49) ?_
  refine all_cons (Tryz.underlying50) ?_
  refine all_cons (Tryz.underlying51) ?_
  refine all_cons (Tryz.underlying52) ?_
  refine all_cons (Tryz.underlying53) ?_
  refine all_cons (Tryz.underlying54) ?_
  refine all_cons (Tryz.underlying55) ?_
  refine all_cons (Tryz.underlying56) ?_
  refine all_cons (Tryz.underlying57) ?_
  refine all_cons (Tryz.underlying58) ?_
  refine all_cons (Tryz.underlying59) ?_
  refine all_cons (Tryz.underlying60) ?_
  refine all_cons (Tryz.underlying61) ?_
  refine all_cons (Tryz.underlying62) ?_
  refine all_cons (Tryz.underlying63) ?_
  refine all_cons (Tryz.underlying64) ?_
  refine all_cons (Tryz.underlying65) ?_
  refine all_cons (Tryz.underlying66) ?_
  refine all_cons (Tryz.underlying67) ?_
  refine all_cons (Tryz.underlying68) ?_
  refine all_cons (Tryz.underlying69) ?_
  refine all_cons (Tryz.underlying70) ?_
  refine all_cons (Tryz.underlying71) ?_
  refine all_cons (Tryz.underlying72) ?_
  refine all_cons (Tryz.underlying73) ?_
  refine all_cons (Tryz.underlying74) ?_
  refine all_cons (Tryz.underlying75) ?_
  refine all_cons (Tryz.underlying76) ?_
  refine all_cons (Tryz.underlying77) ?_
  refine all_cons (Tryz.underlying78) ?_
  refine all_cons (Tryz.underlying79) ?_
  refine all_cons (Tryz.underlying80) ?_
  refine all_cons (Tryz.underlying81) ?_
  refine all_cons (Tryz.underlying82) ?_
  refine all_cons (Tryz.underlying83) ?_
  refine all_cons (Tryz.underlying84) ?_
  refine all_cons (Tryz.underlying85) ?_
  refine all_cons (Tryz.underlying86) ?_
  refine all_cons (Tryz.underlying87) ?_
  refine all_cons (Tryz.underlying88) ?_
  refine all_cons (Tryz.underlying89) ?_
  refine all_cons (Tryz.underlying90) ?_
  refine all_cons (Tryz.underlying91) ?_
  refine all_cons (Tryz.underlying92) ?_
  refine all_cons (Tryz.underlying93) ?_
  refine all_cons (Tryz.underlying94) ?_
  refine all_cons (Tryz.underlying95) ?_
  refine all_cons (Tryz.underlying96) ?_
  refine all_cons (Tryz.underlying97) ?_
  refine all_cons (Tryz.underlying98) ?_
  refine all_cons (Tryz.underlying99) ?_
  refine all_cons (Tryz.underlying100) ?_
  refine all_cons (Tryz.underlying101) ?_
  refine all_cons (Tryz.underlying102) ?_
  refine all_cons (Tryz.underlying103) ?_
  refine all_cons (Tryz.underlying104) ?_
  refine all_cons (Tryz.underlying105) ?_
  refine all_cons (Tryz.underlying106) ?_
  refine all_cons (Tryz.underlying107) ?_
  refine all_cons (Tryz.underlying108) ?_
  refine all_cons (Tryz.underlying109) ?_
  refine all_cons (Tryz.underlying110) ?_
  refine all_cons (Tryz.underlying111) ?_
  refine all_cons (Tryz.underlying112) ?_
  refine all_cons (Tryz.underlying113) ?_
  refine all_cons (Tryz.underlying114) ?_
  refine all_cons (Tryz.underlying115) ?_
  refine all_cons (Tryz.underlying116) ?_
  refine all_cons (Tryz.underlying117) ?_
  refine all_cons (Tryz.underlying118) ?_
  refine all_cons (Tryz.underlying119) ?_
  refine all_cons (Tryz.underlying120) ?_
  refine all_cons (Tryz.underlying121) ?_
  refine all_cons (Tryz.underlying122) ?_
  refine all_cons (Tryz.underlying123) ?_
  refine all_cons (Tryz.underlying124) ?_
  refine all_cons (Tryz.underlying125) ?_
  refine all_cons (Tryz.underlying126) ?_
  refine all_cons (Tryz.underlying127) ?_
  refine all_cons (Tryz.underlying128) ?_
  refine all_cons (Tryz.underlying129) ?_
  refine all_cons (Tryz.underlying130) ?_
  refine all_cons (Tryz.underlying131) ?_
  refine all_cons (Tryz.underlying132) ?_
  refine all_cons (Tryz.underlying133) ?_
  refine all_cons (Tryz.underlying134) ?_
  refine all_cons (Tryz.underlying135) ?_
  refine all_cons (Tryz.underlying136) ?_
  refine all_cons (Tryz.underlying137) ?_
  refine all_cons (Tryz.underlying138) ?_
  refine all_cons (Tryz.underlying139) ?_
  refine all_cons (Tryz.underlying140) ?_
  refine all_cons (Tryz.underlying141) ?_
  refine all_cons (Tryz.underlying142) ?_
  refine all_cons (Tryz.underlying143) ?_
  refine all_cons (Tryz.underlying144) ?_
  refine all_cons (Tryz.underlying145) ?_
  refine all_cons (Tryz.underlying146) ?_
  refine all_cons (Tryz.underlying147) ?_
  refine all_cons (Tryz.underlying148) ?_
  refine all_cons (Tryz.underlying149) ?_
  exact fun _ h => nomatch h

theorem tabS_ok : ∀ x ∈ tabS, ∀ w, (sizeOf x.1).run Tryz.prog w = .ok x.2 w := by
  refine all_cons (Tryz.sizeOf0) ?_
  refine all_cons (Tryz.sizeOf1) ?_
  refine all_cons (Tryz.sizeOf2) ?_
  refine all_cons (Tryz.sizeOf3) ?_
  refine all_cons (Tryz.sizeOf4) ?_
  refine all_cons (Tryz.sizeOf5) ?_
  refine all_cons (Tryz.sizeOf6) ?_
  refine all_cons (Tryz.sizeOf7) ?_
  refine all_cons (Tryz.sizeOf8) ?_
  refine all_cons (Tryz.sizeOf9) ?_
  refine all_cons (Tryz.sizeOf10) ?_
  refine all_cons (Tryz.sizeOf11) ?_
  refine all_cons (Tryz.sizeOf12) ?_
  refine all_cons (Tryz.sizeOf13) ?_
  refine all_cons (Tryz.sizeOf14) ?_
  refine all_cons (Tryz.sizeOf15) ?_
  refine all_cons (Tryz.sizeOf16) ?_
  refine all_cons (Tryz.sizeOf17) ?_
  refine all_cons (Tryz.sizeOf18) ?_
  refine all_cons (Tryz.sizeOf19) ?_
  refine all_cons (Tryz.sizeOf20) ?_
  refine all_cons (Tryz.sizeOf21) ?_
  refine all_cons (Tryz.sizeOf22) ?_
  refine all_cons (Tryz.sizeOf23) ?_
  refine all_cons (Tryz.sizeOf24) ?_
  refine all_cons (Tryz.sizeOf25) ?_
  refine all_cons (Tryz.sizeOf26) ?_
  refine all_cons (Tryz.sizeOf27) ?_
  refine all_cons (Tryz.sizeOf28) ?_
  refine all_cons (Tryz.sizeOf29) ?_
  refine all_cons (Tryz.sizeOf30) ?_
  refine all_cons (Tryz.sizeOf31) ?_
  refine all_cons (Tryz.sizeOf32) ?_
  refine all_cons (Tryz.sizeOf33) ?_
  refine all_cons (Tryz.sizeOf34) ?_
  refine all_cons (Tryz.sizeOf35) ?_
  refine all_cons (Tryz.sizeOf36) ?_
  refine all_cons (Tryz.sizeOf37) ?_
  refine all_cons (Tryz.sizeOf38) ?_
  refine all_cons (Tryz.sizeOf39) ?_
  refine all_cons (Tryz.sizeOf40) ?_
  refine all_cons (Tryz.sizeOf41) ?_
  refine all_cons (Tryz.sizeOf42) ?_
  refine all_cons (Tryz.sizeOf43) ?_
  refine all_cons (Tryz.sizeOf44) ?_
  refine all_cons (Tryz.sizeOf45) ?_
  refine all_cons (Tryz.sizeOf46) ?_
  refine all_cons (Tryz.sizeOf47) ?_
  refine all_cons (Tryz.sizeOf48) ?_
  refine all_cons (Tryz.sizeOf49) ?_
  refine all_cons (Tryz.sizeOf50) ?_
  refine all_cons (Tryz.sizeOf51) ?_
  refine all_cons (Tryz.sizeOf52) ?_
  refine all_cons (Tryz.sizeOf53) ?_
  refine all_cons (Tryz.sizeOf54) ?_
  refine all_cons (Tryz.sizeOf55) ?_
  refine all_cons (Tryz.sizeOf56) ?_
  refine all_cons (Tryz.sizeOf57) ?_
  refine all_cons (Tryz.sizeOf58) ?_
  refine all_cons (Tryz.sizeOf59) ?_
  refine all_cons (Tryz.sizeOf60) ?_
  refine all_cons (Tryz.sizeOf61) ?_
  refine all_cons (Tryz.sizeOf62) ?_
  refine all_cons (Tryz.sizeOf63) ?_
  refine all_cons (Tryz.sizeOf64) ?_
  refine all_cons (Tryz.sizeOf65) ?_
  refine all_cons (Tryz.sizeOf66) ?_
  refine all_cons (Tryz.sizeOf67) ?_
  refine all_cons (Tryz.sizeOf68) ?_
  refine all_cons (Tryz.sizeOf69) ?_
  refine all_cons (Tryz.sizeOf70) ?_
  refine all_cons (Tryz.sizeOf71) ?_
  refine all_cons (Tryz.sizeOf72) ?_
  refine all_cons (Tryz.sizeOf73) ?_
  refine all_cons (Tryz.sizeOf74) ?_
  refine all_cons (Tryz.sizeOf75) ?_
  refine all_cons (Tryz.sizeOf76) ?_
  refine all_cons (Tryz.sizeOf77) ?_
  refine all_cons (Tryz.sizeOf78) ?_
  refine all_cons (Tryz.sizeOf79) ?_
  refine all_cons (Tryz.sizeOf80) ?_
  refine all_cons (Tryz.sizeOf81) ?_
  refine all_cons (Tryz.sizeOf82) ?_
  refine all_cons (Tryz.sizeOf83) ?_
  refine all_cons (Tryz.sizeOf84) ?_
  refine all_cons (Tryz.sizeOf85) ?_
  refine all_cons (Tryz.sizeOf86) ?_
  refine all_cons (Tryz.sizeOf87) ?_
  refine all_cons (Tryz.sizeOf88) ?_
  refine all_cons (Tryz.sizeOf89) ?_
  refine all_cons (Tryz.sizeOf90) ?_
  refine all_cons (Tryz.sizeOf91) ?_
  refine all_cons (Tryz.sizeOf92) ?_
  refine all_cons (Tryz.sizeOf93) ?_
  refine all_cons (Tryz.sizeOf94) ?_
  refine all_cons (Tryz.sizeOf95) ?_
  refine all_cons (Tryz.sizeOf96) ?_
  refine all_cons (Tryz.sizeOf97) ?_
  refine all_cons (Tryz.sizeOf98) ?_
  refine all_cons (Tryz.sizeOf99) ?_
  refine all_cons (Tryz.sizeOf100) ?_
  refine all_cons (Tryz.sizeOf101) ?_
  refine all_cons (Tryz.sizeOf102) ?_
  refine all_cons (Tryz.sizeOf103) ?_
  refine all_cons (Tryz.sizeOf104) ?_
  refine all_cons (Tryz.sizeOf105) ?_
  refine all_cons (Tryz.sizeOf106) ?_
  refine all_cons (Tryz.sizeOf107) ?_
  refine all_cons (Tryz.sizeOf108) ?_
  refine all_cons (Tryz.sizeOf109) ?_
  refine all_cons (Tryz.sizeOf110) ?_
  refine all_cons (Tryz.sizeOf111) ?_
  refine all_cons (Tryz.sizeOf112) ?_
  refine all_cons (Tryz.sizeOf113) ?_
  refine all_cons (Tryz.sizeOf114) ?_
  refine all_cons (Tryz.sizeOf115) ?_
  refine all_cons (Tryz.sizeOf116) ?_
  refine all_cons (Tryz.sizeOf117) ?_
  refine all_cons (Tryz.sizeOf118) ?_
  refine all_cons (Tryz.sizeOf119) ?_
  refine all_cons (Tryz.sizeOf120) ?_
  refine all_cons (Tryz.sizeOf121) ?_
  refine all_cons (Tryz.sizeOf122) ?_
  refine all_cons (Tryz.sizeOf123) ?_
  refine all_cons (Tryz.sizeOf124) ?_
  refine all_cons (Tryz.sizeOf125) ?_
  refine all_cons (Tryz.sizeOf126) ?_
  refine all_cons (Tryz.sizeOf127) ?_
  refine all_cons (Tryz.sizeOf128) ?_
  refine all_cons (Tryz.sizeOf129) ?_
  refine all_cons (Tryz.sizeOf130) ?_
  refine all_cons (Tryz.sizeOf131) ?_
  refine all_cons (Tryz.sizeOf132) ?_
  refine all_cons (Tryz.sizeOf133) ?_
  refine all_cons (Tryz.sizeOf134) ?_
  refine all_cons (Tryz.sizeOf135) ?_
  refine all_cons (Tryz.sizeOf136) ?_
  refine all_cons (Tryz.sizeOf137) ?_
  refine all_cons (Tryz.sizeOf138) ?_
  refine all_cons (Tryz.sizeOf139) ?_
  refine all_cons (Tryz.sizeOf140) ?_
  refine all_cons (Tryz.sizeOf141) ?_
  refine all_cons (Tryz.sizeOf142) ?_
  refine all_cons (Tryz.sizeOf143) ?_
  refine all_cons (Tryz.sizeOf144) ?_
  refine all_cons (Tryz.sizeOf145) ?_
  refine all_cons (Tryz.sizeOf146) ?_
  refine all_cons (Tryz.sizeOf147) ?_
  refine all_cons (Tryz.sizeOf148) ?_
  refine all_cons (Tryz.sizeOf149) ?_
  exact fun _ h => nomatch h

theorem tabB_ok : ∀ x ∈ tabB, ∀ w, ∃ i, (typeInfo x.1).run Tryz.prog w = .ok i w ∧ i.bytes = x.2 := by
  refine all_cons (fun w => ⟨_, Tryz.typeInfo0 w, rfl⟩) ?_
  refine all_cons (fun w => ⟨_, Tryz.typeInfo1 w, rfl⟩) ?_
  refine all_cons (fun w => ⟨_, Tryz.typeInfo2 w, rfl⟩) ?_
  refine all_cons (fun w => ⟨_, Tryz.typeInfo3 w, rfl⟩) ?_
  refine all_cons (fun w => ⟨_, Tryz.typeInfo4 w, rfl⟩) ?_
  refine all_cons (fun w => ⟨_, Tryz.typeInfo5 w, rfl⟩) ?_
  refine all_cons (fun w => ⟨_, Tryz.typeInfo6 w, rfl⟩) ?_
  refine all_cons (fun w => ⟨_, Tryz.typeInfo7 w, rfl⟩) ?_
  refine all_cons (fun w => ⟨_, Tryz.typeInfo8 w, rfl⟩) ?_
  refine all_cons (fun w => ⟨_, Tryz.typeInfo9 w, rfl⟩) ?_
  refine all_cons (fun w => ⟨_, Tryz.typeInfo10 w, rfl⟩) ?_
  refine all_cons (fun w => ⟨_, Tryz.typeInfo11 w, rfl⟩) ?_
  refine all_cons (fun w => ⟨_, Tryz.typeInfo12 w, rfl⟩) ?_
  refine all_cons (fun w => ⟨_, Tryz.typeInfo13 w, rfl⟩) ?_
  refine all_cons (fun w => ⟨_, Tryz.typeInfo14 w, rfl⟩) ?_
  refine all_cons (fun w => ⟨_, Tryz.typeInfo15 w, rfl⟩) ?_
  refine all_cons (fun w => ⟨_, Tryz.typeInfo16 w, rfl⟩) ?_
  refine all_cons (fun w => ⟨_, Tryz.typeInfo17 w, rfl⟩) ?_
  refine all_cons (fun w => ⟨_, Tryz.typeInfo18 w, rfl⟩) ?_
  refine all_cons (fun w => ⟨_, Tryz.typeInfo19 w, rfl⟩) ?_
  refine all_cons (fun w => ⟨_, Tryz.typeInfo20 w, rfl⟩) ?_
  refine all_cons (fun w => ⟨_, Tryz.typeInfo21 w, rfl⟩) ?_
  refine all_cons (fun w => ⟨_, Tryz.typeInfo22 w, rfl⟩) ?_
  refine all_cons (fun w => ⟨_, Tryz.typeInfo23 w, rfl⟩) ?_
  refine all_cons (fun w => ⟨_, Tryz.typeInfo24 w, rfl⟩) ?_
  refine all_cons (fun w => ⟨_, Tryz.typeInfo25 w, rfl⟩) ?_
  refine all_cons (fun w => ⟨_, Tryz.typeInfo26 w, rfl⟩) ?_
  refine all_cons (fun w => ⟨_, Tryz.typeInfo27 w, rfl⟩) ?_
  refine all_cons (fun w => ⟨_, Tryz.typeInfo28 w, rfl⟩) ?_
  refine all_cons (fun w => ⟨_, Tryz.typeInfo29 w, rfl⟩) ?_
  refine all_cons (fun w => ⟨_, Tryz.typeInfo30 w, rfl⟩) ?_
  refine all_cons (fun w => ⟨_, Tryz.typeInfo31 w, rfl⟩) ?_
  refine all_cons (fun w => ⟨_, Tryz.typeInfo32 w, rfl⟩) ?_
  refine all_cons (fun w => ⟨_, Tryz.typeInfo33 w, rfl⟩) ?_
  refine all_cons (fun w => ⟨_, Tryz.typeInfo34 w, rfl⟩) ?_
  refine all_cons (fun w => ⟨_, Tryz.typeInfo35 w, rfl⟩) ?_
  refine all_cons (fun w => ⟨_, Tryz.typeInfo36 w, rfl⟩) ?_
  refine all_cons (fun w => ⟨_, Tryz.typeInfo37 w, rfl⟩) ?_
  refine all_cons (fun w => ⟨_, Tryz.typeInfo38 w, rfl⟩) ?_
  refine all_cons (fun w => ⟨_, Tryz.typeInfo39 w, rfl⟩) ?_
  refine all_cons (fun w => ⟨_, Tryz.typeInfo40 w, rfl⟩) ?_
  refine all_cons (fun w => ⟨_, Tryz.typeInfo41 w, rfl⟩) ?_
  refine all_cons (fun w => ⟨_, Tryz.typeInfo42 w, rfl⟩) ?_
  refine all_cons (fun w => ⟨_, Tryz.typeInfo43 w, rfl⟩) ?_
  refine all_cons (fun w => ⟨_, Tryz.typeInfo44 w, rfl⟩) ?_
  refine all_cons (fun w => ⟨_, Tryz.typeInfo45 w, rfl⟩) ?_
  refine all_cons (fun w => ⟨_, Tryz.typeInfo46 w, rfl⟩) ?_
  refine all_cons (fun w => ⟨_, Tryz.typeInfo47 w, rfl⟩) ?_
  refine all_cons (fun w => ⟨_, Tryz.typeInfo48 w, rfl⟩) ?_
  refine all_cons (fun w => ⟨_, Tryz.typeInfo49 w, rfl⟩) ?_
  refine all_cons (fun w => ⟨_, Tryz.typeInfo50 w, rfl⟩) ?_
  refine all_cons (fun w => ⟨_, Tryz.typeInfo51 w, rfl⟩) ?_
  refine all_cons (fun w => ⟨_, Tryz.typeInfo52 w, rfl⟩) ?_
  refine all_cons (fun w => ⟨_, Tryz.typeInfo53 w, rfl⟩) ?_
  refine all_cons (fun w => ⟨_, Tryz.typeInfo54 w, rfl⟩) ?_
  refine all_cons (fun w => ⟨_, Tryz.typeInfo55 w, rfl⟩) ?_
  refine all_cons (fun w => ⟨_, Tryz.typeInfo56 w, rfl⟩) ?_
  refine all_cons (fun w => ⟨_, Tryz.typeInfo57 w, rfl⟩) ?_
  refine all_cons (fun w => ⟨_, Tryz.typeInfo58 w, rfl⟩) ?_
  refine all_cons (fun w => ⟨_, Tryz.typeInfo59 w, rfl⟩) ?_
  refine all_cons (fun w => ⟨_, Tryz.typeInfo60 w, rfl⟩) ?_
  refine all_cons (fun w => ⟨_, Tryz.typeInfo61 w, rfl⟩) ?_
  refine all_cons (fun w => ⟨_, Tryz.typeInfo62 w, rfl⟩) ?_
  refine all_cons (fun w => ⟨_, Tryz.typeInfo63 w, rfl⟩) ?_
  refine all_cons (fun w => ⟨_, Tryz.typeInfo64 w, rfl⟩) ?_
  refine all_cons (fun w => ⟨_, Tryz.typeInfo65 w, rfl⟩) ?_
  refine all_cons (fun w => ⟨_, Tryz.typeInfo66 w, rfl⟩) ?_
  refine all_cons (fun w => ⟨_, Tryz.typeInfo67 w, rfl⟩) ?_
  refine all_cons (fun w => ⟨_, Tryz.typeInfo68 w, rfl⟩) ?_
  refine all_cons (fun w => ⟨_, Tryz.typeInfo69 w, rfl⟩) ?_
  refine all_cons (fun w => ⟨_, Tryz.typeInfo70 w, rfl⟩) ?_
  refine all_cons (fun w => ⟨_, Tryz.typeInfo71 w, rfl⟩) ?_
  refine all_cons (fun w => ⟨_, Tryz.typeInfo72 w, rfl⟩) ?_
  refine all_cons (fun w => ⟨_, Tryz.typeInfo73 w, rfl⟩) ?_
  refine all_cons (fun w => ⟨_, Tryz.typeInfo74 w, rfl⟩) ?_
  refine all_cons (fun w => ⟨_, Tryz.typeInfo75 w, rfl⟩) ?_
  refine all_cons (fun w => ⟨_, Tryz.typeInfo76 w, rfl⟩) ?_
  refine all_cons (fun w => ⟨_, Tryz.typeInfo77 w, rfl⟩) ?_
  refine all_cons (fun w => ⟨_, Tryz.typeInfo78 w, rfl⟩) ?_
  refine all_cons (fun w => ⟨_, Tryz.typeInfo79 w, rfl⟩) ?_
  refine all_cons (fun w => ⟨_, Tryz.typeInfo80 w, rfl⟩) ?_
  refine all_cons (fun w => ⟨_, Tryz.typeInfo81 w, rfl⟩) ?_
  refine all_cons (fun w => ⟨_, Tryz.typeInfo82 w, rfl⟩) ?_
  refine all_cons (fun w => ⟨_, Tryz.typeInfo83 w, rfl⟩) ?_
  refine all_cons (fun w => ⟨_, Tryz.typeInfo84 w, rfl⟩) ?_
  refine all_cons (fun w => ⟨_, Tryz.typeInfo85 w, rfl⟩) ?_
  refine all_cons (fun w => ⟨_, Tryz.typeInfo86 w, rfl⟩) ?_
  refine all_cons (fun w => ⟨_, Tryz.typeInfo87 w, rfl⟩) ?_
  refine all_cons (fun w => ⟨_, Tryz.typeInfo88 w, rfl⟩) ?_
  refine all_cons (fun w => ⟨_, Tryz.typeInfo89 w, rfl⟩) ?_
  refine all_cons (fun w => ⟨_, Tryz.typeInfo90 w, rfl⟩) ?_
  refine all_cons (fun w => ⟨_, Tryz.typeInfo91 w, rfl⟩) ?_
  refine all_cons (fun w => ⟨_, Tryz.typeInfo92 w, rfl⟩) ?_
  refine all_cons (fun w => ⟨_, Tryz.typeInfo93 w, rfl⟩) ?_
  refine all_cons (fun w => ⟨_, Tryz.typeInfo94 w, rfl⟩) ?_
  refine all_cons (fun w => ⟨_, Tryz.typeInfo95 w, rfl⟩) ?_
  refine all_cons (fun w => ⟨_, Tryz.typeInfo96 w, rfl⟩) ?_
  refine all_cons (fun w => ⟨_, Tryz.typeInfo97 w, rfl⟩) ?_
  refine all_cons (fun w => ⟨_, Tryz.typeInfo98 w, rfl⟩) ?_
  refine all_cons (fun w => ⟨_, Tryz.typeInfo99 w, rfl⟩) ?_
  refine all_cons (fun w => ⟨_, Tryz.typeInfo100 w, rfl⟩) ?_
  refine all_cons (fun w => ⟨_, Tryz.typeInfo101 w, rfl⟩) ?_
  refine all_cons (fun w => ⟨_, Tryz.typeInfo102 w, rfl⟩) ?_
  refine all_cons (fun w => ⟨_, Tryz.typeInfo103 w, rfl⟩) ?_
  refine all_cons (fun w => ⟨_, Tryz.typeInfo104 w, rfl⟩) ?_
  refine all_cons (fun w => ⟨_, Tryz.typeInfo105 w, rfl⟩) ?_
  refine all_cons (fun w => ⟨_, Tryz.typeInfo106 w, rfl⟩) ?_
  refine all_cons (fun w => ⟨_, Tryz.typeInfo107 w, rfl⟩) ?_
  refine all_cons (fun w => ⟨_, Tryz.typeInfo108 w, rfl⟩) ?_
  refine all_cons (fun w => ⟨_, Tryz.typeInfo109 w, rfl⟩) ?_
  refine all_cons (fun w => ⟨_, Tryz.typeInfo110 w, rfl⟩) ?_
  refine all_cons (fun w => ⟨_, Tryz.typeInfo111 w, rfl⟩) ?_
  refine all_cons (fun w => ⟨_, Tryz.typeInfo112 w, rfl⟩) ?_
  refine all_cons (fun w => ⟨_, Tryz.typeInfo113 w, rfl⟩) ?_
  refine all_cons (fun w => ⟨_, Tryz.typeInfo114 w, rfl⟩) ?_
  refine all_cons (fun w => ⟨_, Tryz.typeInfo115 w, rfl⟩) ?_
  refine all_cons (fun w => ⟨_, Tryz.typeInfo116 w, rfl⟩) ?_
  refine all_cons (fun w => ⟨_, Tryz.typeInfo117 w, rfl⟩) ?_
  refine all_cons (fun w => ⟨_, Tryz.typeInfo118 w, rfl⟩) ?_
  refine all_cons (fun w => ⟨_, Tryz.typeInfo119 w, rfl⟩) ?_
  refine all_cons (fun w => ⟨_, Tryz.typeInfo120 w, rfl⟩) ?_
  refine all_cons (fun w => ⟨_, Tryz.typeInfo121 w, rfl⟩) ?_
  refine all_cons (fun w => ⟨_, Tryz.typeInfo122 w, rfl⟩) ?_
  refine all_cons (fun w => ⟨_, Tryz.typeInfo123 w, rfl⟩) ?_
  refine all_cons (fun w => ⟨_, Tryz.typeInfo124 w, rfl⟩) ?_
  refine all_cons (fun w => ⟨_, Tryz.typeInfo125 w, rfl⟩) ?_
  refine all_cons (fun w => ⟨_, Tryz.typeInfo126 w, rfl⟩) ?_
  refine all_cons (fun w => ⟨_, Tryz.typeInfo127 w, rfl⟩) ?_
  refine all_cons (fun w => ⟨_, Tryz.typeInfo128 w, rfl⟩) ?_
  refine all_cons (fun w => ⟨_, Tryz.typeInfo129 w, rfl⟩) ?_
  refine all_cons (fun w => ⟨_, Tryz.typeInfo130 w, rfl⟩) ?_
  refine all_cons (fun w => ⟨_, Tryz.typeInfo131 w, rfl⟩) ?_
  refine all_cons (fun w => ⟨_, Tryz.typeInfo132 w, rfl⟩) ?_
  refine all_cons (fun w => ⟨_, Tryz.typeInfo133 w, rfl⟩) ?_
  refine all_cons (fun w => ⟨_, Tryz.typeInfo134 w, rfl⟩) ?_
  refine all_cons (fun w => ⟨_, Tryz.typeInfo135 w, rfl⟩) ?_
  refine all_cons (fun w => ⟨_, Tryz.typeInfo136 w, rfl⟩) ?_
  refine all_cons (fun w => ⟨_, Tryz.typeInfo137 w, rfl⟩) ?_
  refine all_cons (fun w => ⟨_, Tryz.typeInfo138 w, rfl⟩) ?_
  refine all_cons (fun w => ⟨_, Tryz.typeInfo139 w, rfl⟩) ?_
  refine all_cons (fun w => ⟨_, Tryz.typeInfo140 w, rfl⟩) ?_
  refine all_cons (fun w => ⟨_, Tryz.typeInfo141 w, rfl⟩) ?_
  refine all_cons (fun w => ⟨_, Tryz.typeInfo142 w, rfl⟩) ?_
  refine all_cons (fun w => ⟨_, Tryz.typeInfo143 w, rfl⟩) ?_
  refine all_cons (fun w => ⟨_, Tryz.typeInfo144 w, rfl⟩) ?_
  refine all_cons (fun w => ⟨_, Tryz.typeInfo145 w, rfl⟩) ?_
  refine all_cons (fun w => ⟨_, Tryz.typeInfo146 w, rfl⟩) ?_
  refine all_cons (fun w => ⟨_, Tryz.typeInfo147 w, rfl⟩) ?_
  refine all_cons (fun w => ⟨_, Tryz.typeInfo148 w, rfl⟩) ?_
  refine all_cons (fun w => ⟨_, Tryz.typeInfo149 w, rfl⟩) ?_
  exact fun _ h => nomatch h

theorem tabZ_ok : ∀ x ∈ tabZ, ∀ w, (zeroValue x.1).run Tryz.prog w = .ok x.2 w := by
  refine all_cons (Tryz.zeroValue0) ?_
  refine all_cons (Tryz.zeroValue1) ?_
  refine all_cons (Tryz.zeroValue2) ?_
  refine all_cons (Tryz.zeroValue3) ?_
  refine all_cons (Tryz.zeroValue4) ?_
  refine all_cons (Tryz.zeroValue5) ?_
  refine all_cons (Tryz.zeroValue6) ?_
  refine all_cons (Tryz.zeroValue7) ?_
  refine all_cons (Tryz.zeroValue8) ?_
  refine all_cons (Tryz.zeroValue9) ?_
  refine all_cons (Tryz.zeroValue10) ?_
  refine all_cons (Tryz.zeroValue11) ?_
  refine all_cons (Tryz.zeroValue12) ?_
  refine all_cons (Tryz.zeroValue13) ?_
  refine all_cons (Tryz.zeroValue14) ?_
  refine all_cons (Tryz.zeroValue15) ?_
  refine all_cons (Tryz.zeroValue16) ?_
  refine all_cons (Tryz.zeroValue17) ?_
  refine all_cons (Tryz.zeroValue18) ?_
  refine all_cons (Tryz.zeroValue19) ?_
  refine all_cons (Tryz.zeroValue20) ?_
  refine all_cons (Tryz.zeroValue21) ?_
  refine all_cons (Tryz.zeroValue22) ?_
  refine all_cons (Tryz.zeroValue23) ?_
  refine all_cons (Tryz.zeroValue24) ?_
  refine all_cons (Tryz.zeroValue25) ?_
  refine all_cons (Tryz.zeroValue26) ?_
  refine all_cons (Tryz.zeroValue27) ?_
  refine all_cons (Tryz.zeroValue28) ?_
  refine all_cons (Tryz.zeroValue29) ?_
  refine all_cons (Tryz.zeroValue30) ?_
  refine all_cons (Tryz.zeroValue31) ?_
  refine all_cons (Tryz.zeroValue32) ?_
  refine all_cons (Tryz.zeroValue33) ?_
  refine all_cons (Tryz.zeroValue34) ?_
  refine all_cons (Tryz.zeroValue35) ?_
  refine all_cons (Tryz.zeroValue36) ?_
  refine all_cons (Tryz.zeroValue37) ?_
  refine all_cons (Tryz.zeroValue38) ?_
  refine all_cons (Tryz.zeroValue39) ?_
  refine all_cons (Tryz.zeroValue40) ?_
  refine all_cons (Tryz.zeroValue41) ?_
  refine all_cons (Tryz.zeroValue42) ?_
  refine all_cons (Tryz.zeroValue43) ?_
  refine all_cons (Tryz.zeroValue44) ?_
  refine all_cons (Tryz.zeroValue45) ?_
  refine all_cons (Tryz.zeroValue46) ?_
  refine all_cons (Tryz.zeroValue47) ?_
  refine all_cons (Tryz.zeroValue48) ?_
  refine all_cons (Tryz.zeroValue49) ?_
  refine all_cons (Tryz.zeroValue50) ?_
  refine all_cons (Tryz.zeroValue51) ?_
  refine all_cons (Tryz.zeroValue52) ?_
  refine all_cons (Tryz.zeroValue53) ?_
  refine all_cons (Tryz.zeroValue54) ?_
  refine all_cons (Tryz.zeroValue55) ?_
  refine all_cons (Tryz.zeroValue56) ?_
  refine all_cons (Tryz.zeroValue57) ?_
  refine all_cons (Tryz.zeroValue58) ?_
  refine all_cons (Tryz.zeroValue59) ?_
  refine all_cons (Tryz.zeroValue60) ?_
  refine all_cons (Tryz.zeroValue61) ?_
  refine all_cons (Tryz.zeroValue62) ?_
  refine all_cons (Tryz.zeroValue63) ?_
  refine all_cons (Tryz.zeroValue64) ?_
  refine all_cons (Tryz.zeroValue65) ?_
  refine all_cons (Tryz.zeroValue66) ?_
  refine all_cons (Tryz.zeroValue67) ?_
  refine all_cons (Tryz.zeroValue68) ?_
  refine all_cons (Tryz.zeroValue69) ?_
  refine all_cons (Tryz.zeroValue70) ?_
  refine all_cons (Tryz.zeroValue71) ?_
  refine all_cons (Tryz.zeroValue72) ?_
  refine all_cons (Tryz.zeroValue73) ?_
  refine all_cons (Tryz.zeroValue74) ?_
  refine all_cons (Tryz.zeroValue75) ?_
  refine all_cons (Tryz.zeroValue76) ?_
  refine all_cons (Tryz.zeroValue77) ?_
  refine all_cons (Tryz.zeroValue78) ?_
  refine all_cons (Tryz.zeroValue79) ?_
  refine all_cons (Tryz.zeroValue80) ?_
  refine all_cons (Tryz.zeroValue81) ?_
  refine all_cons (Tryz.zeroValue82) ?_
  refine all_cons (Tryz.zeroValue83) ?_
  refine all_cons (Tryz.zeroValue84) ?_
  refine all_cons (Tryz.zeroValue85) ?_
  refine all_cons (Tryz.zeroValue86) ?_
  refine all_cons (Tryz.zeroValue87) ?_
  refine all_cons (Tryz.zeroValue88) ?_
  refine all_cons (Tryz.zeroValue89) ?_
  refine all_cons (Tryz.zeroValue90) ?_
  refine all_cons (Tryz.zeroValue91) ?_
  refine all_cons (Tryz.zeroValue92) ?_
  refine all_cons (Tryz.zeroValue93) ?_
  refine all_cons (Tryz.zeroValue94) ?_
  refine all_cons (Tryz.zeroValue95) ?_
  refine all_cons (Tryz.zeroValue96) ?_
  refine all_cons (Tryz.zeroValue97) ?_
  refine all_cons (Tryz.zeroValue98) ?_
  refine all_cons (Tryz.zeroValue99) ?_
  refine all_cons (Tryz.zeroValue100) ?_
  refine all_cons (Tryz.zeroValue101) ?_
  refine all_cons (Tryz.zeroValue102) ?_
  refine all_cons (Tryz.zeroValue103) ?_
  refine all_cons (Tryz.zeroValue104) ?_
  refine all_cons (Tryz.zeroValue105) ?_
  refine all_cons (Tryz.zeroValue106) ?_
  refine all_cons (Tryz.zeroValue107) ?_
  refine all_cons (Tryz.zeroValue108) ?_
  refine all_cons (Tryz.zeroValue109) ?_
  refine all_cons (Tryz.zeroValue110) ?_
  refine all_cons (Tryz.zeroValue111) ?_
  refine all_cons (Tryz.zeroValue112) ?_
  refine all_cons (Tryz.zeroValue113) ?_
  refine all_cons (Tryz.zeroValue114) ?_
  refine all_cons (Tryz.zeroValue115) ?_
  refine all_cons (Tryz.zeroValue116) ?_
  refine all_cons (Tryz.zeroValue117) ?_
  refine all_cons (Tryz.zeroValue118) ?_
  refine all_cons (Tryz.zeroValue119) ?_
  refine all_cons (Tryz.zeroValue120) ?_
  refine all_cons (Tryz.zeroValue121) ?_
  refine all_cons (Tryz.zeroValue122) ?_
  refine all_cons (Tryz.zeroValue123) ?_
  refine all_cons (Tryz.zeroValue124) ?_
  refine all_cons (Tryz.zeroValue125) ?_
  refine all_cons (Tryz.zeroValue126) ?_
  refine all_cons (Tryz.zeroValue127) ?_
  refine all_cons (Tryz.zeroValue128) ?_
  refine all_cons (Tryz.zeroValue129) ?_
  refine all_cons (Tryz.zeroValue131) ?_
  refine all_cons (Tryz.zeroValue132) ?_
  refine all_cons (Tryz.zeroValue133) ?_
  refine all_cons (Tryz.zeroValue134) ?_
  refine all_cons (Tryz.zeroValue135) ?_
  refine all_cons (Tryz.zeroValue136) ?_
  refine all_cons (Tryz.zeroValue137) ?_
  refine all_cons (Tryz.zeroValue138) ?_
  refine all_cons (Tryz.zeroValue139) ?_
  refine all_cons (Tryz.zeroValue140) ?_
  refine all_cons (Tryz.zeroValue141) ?_
  refine all_cons (Tryz.zeroValue142) ?_
  refine all_cons (Tryz.zeroValue143) ?_
  refine all_cons (Tryz.zeroValue144) ?_
  refine all_cons (Tryz.zeroValue145) ?_
  refine all_cons (Tryz.zeroValue146) ?_
  refine all_cons (Tryz.zeroValue147) ?_
  refine all_cons (Tryz.zeroValue148) ?_
  refine all_cons (Tryz.zeroValue149) ?_
  exact fun _ h => nomatch h

theorem tok : TabOk Tryz.prog tab := ⟨tabD_ok, tabS_ok, tabB_ok, tabZ_ok⟩

end Go.Proofs.YthpekiohalejmaaGreatDoor
