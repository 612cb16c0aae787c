/- What is known of the types of this seat: written by a program, off the seat's own facts. -/
import Derived.Test.YthpekiohalejmaaDoorProg
import Derived.Test.YthpekiohalejmaaDoorVc
namespace Go.Proofs.YthpekiohalejmaaDoor
open Go Go.Vc

theorem all_cons {α : Type} {p : α → Prop} {x : α} {l : List α} (h : p x) (r : ∀ y ∈ l, p y) : ∀ y ∈ x :: l, p y := fun y hy => by
  cases hy with
  | head => exact h
  | tail _ hy => exact r y hy

def tabD : List (Nat × TypeDesc) := [(0, Go.TypeDesc.tuple #[]), (1, Go.TypeDesc.func #[] #[] false), (2, Go.TypeDesc.int Go.IntKind.i64), (3, Go.TypeDesc.int Go.IntKind.i64), (4, Go.TypeDesc.bool), (5, Go.TypeDesc.int Go.IntKind.u8), (6, Go.TypeDesc.int Go.IntKind.u8), (7, Go.TypeDesc.struct #[{ name := "x", type := 2, offset := 0, embedded := false, tag := "", pkgPath := "runtime", byteOffset := 0 }, { name := "y", type := 3, offset := 1, embedded := false, tag := "", pkgPath := "runtime", byteOffset := 8 }, { name := "signed", type := 4, offset := 2, embedded := false, tag := "", pkgPath := "runtime", byteOffset := 16 }, { name := "code", type := 6, offset := 3, embedded := false, tag := "", pkgPath := "runtime", byteOffset := 17 }]), (8, Go.TypeDesc.struct #[{ name := "x", type := 2, offset := 0, embedded := false, tag := "", pkgPath := "runtime", byteOffset := 0 }, { name := "y", type := 3, offset := 1, embedded := false, tag := "", pkgPath := "runtime", byteOffset := 8 }, { name := "signed", type := 4, offset := 2, embedded := false, tag := "", pkgPath := "runtime", byteOffset := 16 }, { name := "code", type := 6, offset := 3, embedded := false, tag := "", pkgPath := "runtime", byteOffset := 17 }]), (9, Go.TypeDesc.string), (10, Go.TypeDesc.string), (11, Go.TypeDesc.string), (12, Go.TypeDesc.int Go.IntKind.u64), (13, Go.TypeDesc.struct #[{ name := "msg", type := 9, offset := 0, embedded := false, tag := "", pkgPath := "runtime", byteOffset := 0 }, { name := "addr", type := 12, offset := 1, embedded := false, tag := "", pkgPath := "runtime", byteOffset := 16 }]), (14, Go.TypeDesc.struct #[{ name := "msg", type := 9, offset := 0, embedded := false, tag := "", pkgPath := "runtime", byteOffset := 0 }, { name := "addr", type := 12, offset := 1, embedded := false, tag := "", pkgPath := "runtime", byteOffset := 16 }]), (15, Go.TypeDesc.pointer 131), (16, Go.TypeDesc.pointer 134), (17, Go.TypeDesc.pointer 142), (18, Go.TypeDesc.struct #[{ name := "typ", type := 17, offset := 0, embedded := false, tag := "", pkgPath := "internal/runtime/maps", byteOffset := 0 }]), (19, Go.TypeDesc.struct #[{ name := "typ", type := 17, offset := 0, embedded := false, tag := "", pkgPath := "internal/runtime/maps", byteOffset := 0 }]), (20, Go.TypeDesc.interface #[]), (21, Go.TypeDesc.int Go.IntKind.i32), (22, Go.TypeDesc.slice 24), (23, Go.TypeDesc.struct #[{ name := "Op", type := 3, offset := 0, embedded := false, tag := "", pkgPath := "", byteOffset := 0 }, { name := "Num", type := 2, offset := 1, embedded := false, tag := "", pkgPath := "", byteOffset := 8 }, { name := "Name", type := 9, offset := 2, embedded := false, tag := "", pkgPath := "", byteOffset := 16 }, { name := "Kids", type := 22, offset := 3, embedded := false, tag := "", pkgPath := "", byteOffset := 32 }, { name := "Line", type := 3, offset := 4, embedded := false, tag := "", pkgPath := "", byteOffset := 56 }, { name := "Col", type := 3, offset := 5, embedded := false, tag := "", pkgPath := "", byteOffset := 64 }]), (24, Go.TypeDesc.struct #[{ name := "Op", type := 3, offset := 0, embedded := false, tag := "", pkgPath := "", byteOffset := 0 }, { name := "Num", type := 2, offset := 1, embedded := false, tag := "", pkgPath := "", byteOffset := 8 }, { name := "Name", type := 9, offset := 2, embedded := false, tag := "", pkgPath := "", byteOffset := 16 }, { name := "Kids", type := 22, offset := 3, embedded := false, tag := "", pkgPath := "", byteOffset := 32 }, { name := "Line", type := 3, offset := 4, embedded := false, tag := "", pkgPath := "", byteOffset := 56 }, { name := "Col", type := 3, offset := 5, embedded := false, tag := "", pkgPath := "", byteOffset := 64 }]), (25, Go.TypeDesc.func #[] #[4] false), (26, Go.TypeDesc.int Go.IntKind.i64), (27, Go.TypeDesc.tuple #[9, 26]), (28, Go.TypeDesc.func #[24] #[9, 26] false), (29, Go.TypeDesc.func #[24, 24] #[4] false), (30, Go.TypeDesc.func #[24] #[3] false), (31, Go.TypeDesc.func #[24, 3, 3] #[4] false), (32, Go.TypeDesc.func #[24] #[4] false), (33, Go.TypeDesc.func #[38] #[9, 26] false), (34, Go.TypeDesc.slice 62), (35, Go.TypeDesc.slice 55), (36, Go.TypeDesc.slice 43), (37, Go.TypeDesc.struct #[{ name := "Enums", type := 35, offset := 0, embedded := false, tag := "", pkgPath := "", byteOffset := 0 }, { name := "Vars", type := 34, offset := 1, embedded := false, tag := "", pkgPath := "", byteOffset := 24 }, { name := "Processes", type := 36, offset := 2, embedded := false, tag := "", pkgPath := "", byteOffset := 48 }]), (38, Go.TypeDesc.struct #[{ name := "Enums", type := 35, offset := 0, embedded := false, tag := "", pkgPath := "", byteOffset := 0 }, { name := "Vars", type := 34, offset := 1, embedded := false, tag := "", pkgPath := "", byteOffset := 24 }, { name := "Processes", type := 36, offset := 2, embedded := false, tag := "", pkgPath := "", byteOffset := 48 }]), (39, Go.TypeDesc.array 30 3), (40, Go.TypeDesc.func #[3] #[9] false), (41, Go.TypeDesc.slice 66), (42, Go.TypeDesc.struct #[{ name := "Name", type := 9, offset := 0, embedded := false, tag := "", pkgPath := "", byteOffset := 0 }, { name := "Rules", type := 41, offset := 1, embedded := false, tag := "", pkgPath := "", byteOffset := 16 }, { name := "Line", type := 3, offset := 2, embedded := false, tag := "", pkgPath := "", byteOffset := 40 }, { name := "Col", type := 3, offset := 3, embedded := false, tag := "", pkgPath := "", byteOffset := 48 }]), (43, Go.TypeDesc.struct #[{ name := "Name", type := 9, offset := 0, embedded := false, tag := "", pkgPath := "", byteOffset := 0 }, { name := "Rules", type := 41, offset := 1, embedded := false, tag := "", pkgPath := "", byteOffset := 16 }, { name := "Line", type := 3, offset := 2, embedded := false, tag := "", pkgPath := "", byteOffset := 40 }, { name := "Col", type := 3, offset := 3, embedded := false, tag := "", pkgPath := "", byteOffset := 48 }]), (44, Go.TypeDesc.func #[38, 38] #[4] false), (45, Go.TypeDesc.func #[38] #[4] false), (46, Go.TypeDesc.func #[24] #[9] false), (47, Go.TypeDesc.func #[22, 22, 29] #[4] false), (48, Go.TypeDesc.func #[24, 3] #[4] false), (49, Go.TypeDesc.pointer 52), (50, Go.TypeDesc.slice 5), (51, Go.TypeDesc.struct #[{ name := "addr", type := 49, offset := 0, embedded := false, tag := "", pkgPath := "strings", byteOffset := 0 }, { name := "buf", type := 50, offset := 1, embedded := false, tag := "", pkgPath := "strings", byteOffset := 8 }]), (52, Go.TypeDesc.struct #[{ name := "addr", type := 49, offset := 0, embedded := false, tag := "", pkgPath := "strings", byteOffset := 0 }, { name := "buf", type := 50, offset := 1, embedded := false, tag := "", pkgPath := "strings", byteOffset := 8 }]), (53, Go.TypeDesc.slice 9), (54, Go.TypeDesc.struct #[{ name := "Name", type := 9, offset := 0, embedded := false, tag := "", pkgPath := "", byteOffset := 0 }, { name := "Values", type := 53, offset := 1, embedded := false, tag := "", pkgPath := "", byteOffset := 16 }, { name := "Line", type := 3, offset := 2, embedded := false, tag := "", pkgPath := "", byteOffset := 40 }, { name := "Col", type := 3, offset := 3, embedded := false, tag := "", pkgPath := "", byteOffset := 48 }]), (55, Go.TypeDesc.struct #[{ name := "Name", type := 9, offset := 0, embedded := false, tag := "", pkgPath := "", byteOffset := 0 }, { name := "Values", type := 53, offset := 1, embedded := false, tag := "", pkgPath := "", byteOffset := 16 }, { name := "Line", type := 3, offset := 2, embedded := false, tag := "", pkgPath := "", byteOffset := 40 }, { name := "Col", type := 3, offset := 3, embedded := false, tag := "", pkgPath := "", byteOffset := 48 }]), (56, Go.TypeDesc.interface #[("Error", 68)]), (57, Go.TypeDesc.interface #[("Error", 68)]), (58, Go.TypeDesc.tuple #[3, 57]), (59, Go.TypeDesc.func #[9] #[3, 57] false), (60, Go.TypeDesc.func #[53, 9] #[9] false), (61, Go.TypeDesc.struct #[{ name := "Name", type := 9, offset := 0, embedded := false, tag := "", pkgPath := "", byteOffset := 0 }, { name := "Type", type := 9, offset := 1, embedded := false, tag := "", pkgPath := "", byteOffset := 16 }, { name := "Low", type := 2, offset := 2, embedded := false, tag := "", pkgPath := "", byteOffset := 32 }, { name := "High", type := 2, offset := 3, embedded := false, tag := "", pkgPath := "", byteOffset := 40 }, { name := "Begins", type := 22, offset := 4, embedded := false, tag := "", pkgPath := "", byteOffset := 48 }, { name := "Line", type := 3, offset := 5, embedded := false, tag := "", pkgPath := "", byteOffset := 72 }, { name := "Col", type := 3, offset := 6, embedded := false, tag := "", pkgPath := "", byteOffset := 80 }]), (62, Go.TypeDesc.struct #[{ name := "Name", type := 9, offset := 0, embedded := false, tag := "", pkgPath := "", byteOffset := 0 }, { name := "Type", type := 9, offset := 1, embedded := false, tag := "", pkgPath := "", byteOffset := 16 }, { name := "Low", type := 2, offset := 2, embedded := false, tag := "", pkgPath := "", byteOffset := 32 }, { name := "High", type := 2, offset := 3, embedded := false, tag := "", pkgPath := "", byteOffset := 40 }, { name := "Begins", type := 22, offset := 4, embedded := false, tag := "", pkgPath := "", byteOffset := 48 }, { name := "Line", type := 3, offset := 5, embedded := false, tag := "", pkgPath := "", byteOffset := 72 }, { name := "Col", type := 3, offset := 6, embedded := false, tag := "", pkgPath := "", byteOffset := 80 }]), (63, Go.TypeDesc.func #[62] #[9] false), (64, Go.TypeDesc.slice 76), (65, Go.TypeDesc.struct #[{ name := "When", type := 24, offset := 0, embedded := false, tag := "", pkgPath := "", byteOffset := 0 }, { name := "Do", type := 64, offset := 6, embedded := false, tag := "", pkgPath := "", byteOffset := 72 }]), (66, Go.TypeDesc.struct #[{ name := "When", type := 24, offset := 0, embedded := false, tag := "", pkgPath := "", byteOffset := 0 }, { name := "Do", type := 64, offset := 6, embedded := false, tag := "", pkgPath := "", byteOffset := 72 }]), (67, Go.TypeDesc.func #[66] #[9] false), (68, Go.TypeDesc.func #[] #[9] false), (69, Go.TypeDesc.array 26 9), (70, Go.TypeDesc.func #[35, 35, 72] #[4] false), (71, Go.TypeDesc.func #[53, 53] #[4] false), (72, Go.TypeDesc.func #[55, 55] #[4] false), (73, Go.TypeDesc.func #[34, 34, 74] #[4] false), (74, Go.TypeDesc.func #[62, 62] #[4] false), (75, Go.TypeDesc.struct #[{ name := "Name", type := 9, offset := 0, embedded := false, tag := "", pkgPath := "", byteOffset := 0 }, { name := "To", type := 24, offset := 1, embedded := false, tag := "", pkgPath := "", byteOffset := 16 }, { name := "Line", type := 3, offset := 7, embedded := false, tag := "", pkgPath := "", byteOffset := 88 }, { name := "Col", type := 3, offset := 8, embedded := false, tag := "", pkgPath := "", byteOffset := 96 }]), (76, Go.TypeDesc.struct #[{ name := "Name", type := 9, offset := 0, embedded := false, tag := "", pkgPath := "", byteOffset := 0 }, { name := "To", type := 24, offset := 1, embedded := false, tag := "", pkgPath := "", byteOffset := 16 }, { name := "Line", type := 3, offset := 7, embedded := false, tag := "", pkgPath := "", byteOffset := 88 }, { name := "Col", type := 3, offset := 8, embedded := false, tag := "", pkgPath := "", byteOffset := 96 }]), (77, Go.TypeDesc.func #[76, 76] #[4] false), (78, Go.TypeDesc.func #[64, 64, 77] #[4] false), (79, Go.TypeDesc.func #[66, 66] #[4] false), (80, Go.TypeDesc.func #[36, 36, 82] #[4] false), (81, Go.TypeDesc.func #[41, 41, 79] #[4] false), (82, Go.TypeDesc.func #[43, 43] #[4] false), (83, Go.TypeDesc.func #[2, 3] #[9] false), (84, Go.TypeDesc.func #[4] #[9] false), (85, Go.TypeDesc.func #[3] #[3] false), (86, Go.TypeDesc.func #[22, 32] #[4] false), (87, Go.TypeDesc.func #[3, 3] #[4] false), (88, Go.TypeDesc.func #[35, 89] #[4] false), (89, Go.TypeDesc.func #[55] #[4] false), (90, Go.TypeDesc.func #[34, 91] #[4] false), (91, Go.TypeDesc.func #[62] #[4] false), (92, Go.TypeDesc.func #[36, 93] #[4] false), (93, Go.TypeDesc.func #[43] #[4] false), (94, Go.TypeDesc.func #[3] #[] false), (95, Go.TypeDesc.pointer 5), (96, Go.TypeDesc.func #[9] #[4] false), (97, Go.TypeDesc.func #[22, 32] #[3] false), (98, Go.TypeDesc.func #[35, 89] #[3] false), (99, Go.TypeDesc.func #[53, 96] #[4] false), (100, Go.TypeDesc.func #[34, 91] #[3] false), (101, Go.TypeDesc.func #[36, 93] #[3] false), (102, Go.TypeDesc.func #[41, 103] #[4] false), (103, Go.TypeDesc.func #[66] #[4] false), (104, Go.TypeDesc.unsafePointer), (105, Go.TypeDesc.func #[104] #[104] false), (106, Go.TypeDesc.array 24 5), (107, Go.TypeDesc.int Go.IntKind.u64), (108, Go.TypeDesc.func #[107] #[3] false), (109, Go.TypeDesc.func #[50, 107] #[] false), (110, Go.TypeDesc.tuple #[50, 9]), (111, Go.TypeDesc.func #[50, 107, 3, 4, 4] #[50, 9] false), (112, Go.TypeDesc.func #[5] #[4] false), (113, Go.TypeDesc.func #[9, 112] #[3] false), (114, Go.TypeDesc.func #[53, 96] #[3] false), (115, Go.TypeDesc.func #[41, 103] #[3] false), (116, Go.TypeDesc.func #[64, 117] #[4] false), (117, Go.TypeDesc.func #[76] #[4] false), (118, Go.TypeDesc.func #[3] #[50] false), (119, Go.TypeDesc.func #[4] #[3] false), (120, Go.TypeDesc.array 20 107), (121, Go.TypeDesc.int Go.IntKind.u32), (122, Go.TypeDesc.array 65 5), (123, Go.TypeDesc.func #[3] #[4] false), (124, Go.TypeDesc.int Go.IntKind.u64), (125, Go.TypeDesc.func #[124] #[3] false), (126, Go.TypeDesc.func #[64, 117] #[3] false), (127, Go.TypeDesc.func #[121] #[3] false), (128, Go.TypeDesc.array 32 5), (129, Go.TypeDesc.array 64 5), (130, Go.TypeDesc.struct #[{ name := "_interface", type := 17, offset := 0, embedded := false, tag := "", pkgPath := "runtime", byteOffset := 0 }, { name := "concrete", type := 17, offset := 1, embedded := false, tag := "", pkgPath := "runtime", byteOffset := 8 }, { name := "asserted", type := 17, offset := 2, embedded := false, tag := "", pkgPath := "runtime", byteOffset := 16 }, { name := "missingMethod", type := 9, offset := 3, embedded := false, tag := "", pkgPath := "runtime", byteOffset := 24 }]), (131, Go.TypeDesc.struct #[{ name := "_interface", type := 17, offset := 0, embedded := false, tag := "", pkgPath := "runtime", byteOffset := 0 }, { name := "concrete", type := 17, offset := 1, embedded := false, tag := "", pkgPath := "runtime", byteOffset := 8 }, { name := "asserted", type := 17, offset := 2, embedded := false, tag := "", pkgPath := "runtime", byteOffset := 16 }, { name := "missingMethod", type := 9, offset := 3, embedded := false, tag := "", pkgPath := "runtime", byteOffset := 24 }]), (132, Go.TypeDesc.array 0 16), (133, Go.TypeDesc.struct #[{ name := "_", type := 132, offset := 0, embedded := false, tag := "", pkgPath := "runtime", byteOffset := 0 }]), (134, Go.TypeDesc.struct #[{ name := "_", type := 132, offset := 0, embedded := false, tag := "", pkgPath := "runtime", byteOffset := 0 }]), (135, Go.TypeDesc.func #[] #[3] false), (136, Go.TypeDesc.int Go.IntKind.u8), (137, Go.TypeDesc.int Go.IntKind.u8), (138, Go.TypeDesc.func #[104, 104] #[4] false), (139, Go.TypeDesc.int Go.IntKind.i32), (140, Go.TypeDesc.int Go.IntKind.i32), (141, Go.TypeDesc.struct #[{ name := "Size_", type := 12, offset := 0, embedded := false, tag := "", pkgPath := "", byteOffset := 0 }, { name := "PtrBytes", type := 12, offset := 1, embedded := false, tag := "", pkgPath := "", byteOffset := 8 }, { name := "Hash", type := 121, offset := 2, embedded := false, tag := "", pkgPath := "", byteOffset := 16 }, { name := "TFlag", type := 136, offset := 3, embedded := false, tag := "", pkgPath := "", byteOffset := 20 }, { name := "Align_", type := 5, offset := 4, embedded := false, tag := "", pkgPath := "", byteOffset := 21 }, { name := "FieldAlign_", type := 5, offset := 5, embedded := false, tag := "", pkgPath := "", byteOffset := 22 }, { name := "Kind_", type := 137, offset := 6, embedded := false, tag := "", pkgPath := "", byteOffset := 23 }, { name := "Equal", type := 138, offset := 7, embedded := false, tag := "", pkgPath := "", byteOffset := 24 }, { name := "GCData", type := 95, offset := 8, embedded := false, tag := "", pkgPath := "", byteOffset := 32 }, { name := "Str", type := 139, offset := 9, embedded := false, tag := "", pkgPath := "", byteOffset := 40 }, { name := "PtrToThis", type := 140, offset := 10, embedded := false, tag := "", pkgPath := "", byteOffset := 44 }]), (142, Go.TypeDesc.struct #[{ name := "Size_", type := 12, offset := 0, embedded := false, tag := "", pkgPath := "", byteOffset := 0 }, { name := "PtrBytes", type := 12, offset := 1, embedded := false, tag := "", pkgPath := "", byteOffset := 8 }, { name := "Hash", type := 121, offset := 2, embedded := false, tag := "", pkgPath := "", byteOffset := 16 }, { name := "TFlag", type := 136, offset := 3, embedded := false, tag := "", pkgPath := "", byteOffset := 20 }, { name := "Align_", type := 5, offset := 4, embedded := false, tag := "", pkgPath := "", byteOffset := 21 }, { name := "FieldAlign_", type := 5, offset := 5, embedded := false, tag := "", pkgPath := "", byteOffset := 22 }, { name := "Kind_", type := 137, offset := 6, embedded := false, tag := "", pkgPath := "", byteOffset := 23 }, { name := "Equal", type := 138, offset := 7, embedded := false, tag := "", pkgPath := "", byteOffset := 24 }, { name := "GCData", type := 95, offset := 8, embedded := false, tag := "", pkgPath := "", byteOffset := 32 }, { name := "Str", type := 139, offset := 9, embedded := false, tag := "", pkgPath := "", byteOffset := 40 }, { name := "PtrToThis", type := 140, offset := 10, embedded := false, tag := "", pkgPath := "", byteOffset := 44 }])]
def tabS : List (Nat × Nat) := [(0, 1), (1, 1), (2, 1), (3, 1), (4, 1), (5, 1), (6, 1), (7, 4), (8, 4), (9, 1), (10, 1), (11, 1), (12, 1), (13, 2), (14, 2), (15, 1), (16, 1), (17, 1), (18, 1), (19, 1), (20, 1), (21, 1), (22, 1), (23, 6), (24, 6), (25, 1), (26, 1), (27, 1), (28, 1), (29, 1), (30, 1), (31, 1), (32, 1), (33, 1), (34, 1), (35, 1), (36, 1), (37, 3), (38, 3), (39, 30), (40, 1), (41, 1), (42, 4), (43, 4), (44, 1), (45, 1), (46, 1), (47, 1), (48, 1), (49, 1), (50, 1), (51, 2), (52, 2), (53, 1), (54, 4), (55, 4), (56, 1), (57, 1), (58, 1), (59, 1), (60, 1), (61, 7), (62, 7), (63, 1), (64, 1), (65, 7), (66, 7), (67, 1), (68, 1), (69, 26), (70, 1), (71, 1), (72, 1), (73, 1), (74, 1), (75, 9), (76, 9), (77, 1), (78, 1), (79, 1), (80, 1), (81, 1), (82, 1), (83, 1), (84, 1), (85, 1), (86, 1), (87, 1), (88, 1), (89, 1), (90, 1), (91, 1), (92, 1), (93, 1), (94, 1), (95, 1), (96, 1), (97, 1), (98, 1), (99, 1), (100, 1), (101, 1), (102, 1), (103, 1), (104, 1), (105, 1), (106, 24), (107, 1), (108, 1), (109, 1), (110, 1), (111, 1), (112, 1), (113, 1), (114, 1), (115, 1), (116, 1), (117, 1), (118, 1), (119, 1), (120, 20), (121, 1), (122, 65), (123, 1), (124, 1), (125, 1), (126, 1), (127, 1), (128, 32), (129, 64), (130, 4), (131, 4), (132, 0), (133, 0), (134, 0), (135, 1), (136, 1), (137, 1), (138, 1), (139, 1), (140, 1), (141, 11), (142, 11)]
def tabB : List (Nat × Nat) := [(0, 0), (1, 8), (2, 8), (3, 8), (4, 1), (5, 1), (6, 1), (7, 24), (8, 24), (9, 16), (10, 16), (11, 16), (12, 8), (13, 24), (14, 24), (15, 8), (16, 8), (17, 8), (18, 8), (19, 8), (20, 16), (21, 4), (22, 24), (23, 72), (24, 72), (25, 8), (26, 8), (27, 0), (28, 8), (29, 8), (30, 8), (31, 8), (32, 8), (33, 8), (34, 24), (35, 24), (36, 24), (37, 72), (38, 72), (39, 240), (40, 8), (41, 24), (42, 56), (43, 56), (44, 8), (45, 8), (46, 8), (47, 8), (48, 8), (49, 8), (50, 24), (51, 32), (52, 32), (53, 24), (54, 56), (55, 56), (56, 16), (57, 16), (58, 0), (59, 8), (60, 8), (61, 88), (62, 88), (63, 8), (64, 24), (65, 96), (66, 96), (67, 8), (68, 8), (69, 416), (70, 8), (71, 8), (72, 8), (73, 8), (74, 8), (75, 104), (76, 104), (77, 8), (78, 8), (79, 8), (80, 8), (81, 8), (82, 8), (83, 8), (84, 8), (85, 8), (86, 8), (87, 8), (88, 8), (89, 8), (90, 8), (91, 8), (92, 8), (93, 8), (94, 8), (95, 8), (96, 8), (97, 8), (98, 8), (99, 8), (100, 8), (101, 8), (102, 8), (103, 8), (104, 8), (105, 8), (106, 24), (107, 8), (108, 8), (109, 8), (110, 0), (111, 8), (112, 8), (113, 8), (114, 8), (115, 8), (116, 8), (117, 8), (118, 8), (119, 8), (120, 160), (121, 4), (122, 65), (123, 8), (124, 8), (125, 8), (126, 8), (127, 8), (128, 32), (129, 64), (130, 40), (131, 40), (132, 0), (133, 0), (134, 0), (135, 8), (136, 1), (137, 1), (138, 8), (139, 4), (140, 4), (141, 48), (142, 48)]
def tabZ : List (Nat × Value) := [(0, (Go.Value.tuple #[])), (1, Go.Value.nilFunc), (2, (Go.Value.int Go.IntKind.i64 0)), (3, (Go.Value.int Go.IntKind.i64 0)), (4, (Go.Value.bool false)), (5, (Go.Value.int Go.IntKind.u8 0)), (6, (Go.Value.int Go.IntKind.u8 0)), (7, (Go.Value.agg #[Go.Value.int Go.IntKind.i64 0, Go.Value.int Go.IntKind.i64 0, Go.Value.bool false, Go.Value.int Go.IntKind.u8 0])), (8, (Go.Value.agg #[Go.Value.int Go.IntKind.i64 0, Go.Value.int Go.IntKind.i64 0, Go.Value.bool false, Go.Value.int Go.IntKind.u8 0])), (9, (Go.Value.string { data := #[] })), (10, (Go.Value.string { data := #[] })), (11, (Go.Value.string { data := #[] })), (12, (Go.Value.int Go.IntKind.u64 0)), (13, (Go.Value.agg #[Go.Value.string { data := #[] }, Go.Value.int Go.IntKind.u64 0])), (14, (Go.Value.agg #[Go.Value.string { data := #[] }, Go.Value.int Go.IntKind.u64 0])), (15, (Go.Value.pointer none)), (16, (Go.Value.pointer none)), (17, (Go.Value.pointer none)), (18, (Go.Value.agg #[Go.Value.pointer none])), (19, (Go.Value.agg #[Go.Value.pointer none])), (20, Go.Value.nilIface), (21, (Go.Value.int Go.IntKind.i32 0)), (22, (Go.Value.slice none 0 0)), (23, (Go.Value.agg #[Go.Value.int Go.IntKind.i64 0, Go.Value.int Go.IntKind.i64 0, Go.Value.string { data := #[] }, Go.Value.slice none 0 0, Go.Value.int Go.IntKind.i64 0, Go.Value.int Go.IntKind.i64 0])), (24, (Go.Value.agg #[Go.Value.int Go.IntKind.i64 0, Go.Value.int Go.IntKind.i64 0, Go.Value.string { data := #[] }, Go.Value.slice none 0 0, Go.Value.int Go.IntKind.i64 0, Go.Value.int Go.IntKind.i64 0])), (25, Go.Value.nilFunc), (26, (Go.Value.int Go.IntKind.i64 0)), (27, (Go.Value.tuple #[Go.Value.string { data := #[] }, Go.Value.int Go.IntKind.i64 0])), (28, Go.Value.nilFunc), (29, Go.Value.nilFunc), (30, Go.Value.nilFunc), (31, Go.Value.nilFunc), (32, Go.Value.nilFunc), (33, Go.Value.nilFunc), (34, (Go.Value.slice none 0 0)), (35, (Go.Value.slice none 0 0)), (36, (Go.Value.slice none 0 0)), (37, (Go.Value.agg #[Go.Value.slice none 0 0, Go.Value.slice none 0 0, Go.Value.slice none 0 0])), (38, (Go.Value.agg #[Go.Value.slice none 0 0, Go.Value.slice none 0 0, Go.Value.slice none 0 0])), (39, (Go.Value.agg #[Go.Value.int Go.IntKind.i64 0, Go.Value.int Go.IntKind.i64 0, Go.Value.int Go.IntKind.i64 0, Go.Value.int Go.IntKind.i64 0, Go.Value.int Go.IntKind.i64 0, Go.Value.int Go.IntKind.i64 0, Go.Value.int Go.IntKind.i64 0, Go.Value.int Go.IntKind.i64 0, Go.Value.int Go.IntKind.i64 0, Go.Value.int Go.IntKind.i64 0, Go.Value.int Go.IntKind.i64 0, Go.Value.int Go.IntKind.i64 0, Go.Value.int Go.IntKind.i64 0, Go.Value.int Go.IntKind.i64 0, Go.Value.int Go.IntKind.i64 0, Go.Value.int Go.IntKind.i64 0, Go.Value.int Go.IntKind.i64 0, Go.Value.int Go.IntKind.i64 0, Go.Value.int Go.IntKind.i64 0, Go.Value.int Go.IntKind.i64 0, Go.Value.int Go.IntKind.i64 0, Go.Value.int Go.IntKind.i64 0, Go.Value.int Go.IntKind.i64 0, Go.Value.int Go.IntKind.i64 0, Go.Value.int Go.IntKind.i64 0, Go.Value.int Go.IntKind.i64 0, Go.Value.int Go.IntKind.i64 0, Go.Value.int Go.IntKind.i64 0, Go.Value.int Go.IntKind.i64 0, Go.Value.int Go.IntKind.i64 0])), (40, Go.Value.nilFunc), (41, (Go.Value.slice none 0 0)), (42, (Go.Value.agg #[Go.Value.string { data := #[] }, Go.Value.slice none 0 0, Go.Value.int Go.IntKind.i64 0, Go.Value.int Go.IntKind.i64 0])), (43, (Go.Value.agg #[Go.Value.string { data := #[] }, Go.Value.slice none 0 0, Go.Value.int Go.IntKind.i64 0, Go.Value.int Go.IntKind.i64 0])), (44, Go.Value.nilFunc), (45, Go.Value.nilFunc), (46, Go.Value.nilFunc), (47, Go.Value.nilFunc), (48, Go.Value.nilFunc), (49, (Go.Value.pointer none)), (50, (Go.Value.slice none 0 0)), (51, (Go.Value.agg #[Go.Value.pointer none, Go.Value.slice none 0 0])), (52, (Go.Value.agg #[Go.Value.pointer none, Go.Value.slice none 0 0])), (53, (Go.Value.slice none 0 0)), (54, (Go.Value.agg #[Go.Value.string { data := #[] }, Go.Value.slice none 0 0, Go.Value.int Go.IntKind.i64 0, Go.Value.int Go.IntKind.i64 0])), (55, (Go.Value.agg #[Go.Value.string { data := #[] }, Go.Value.slice none 0 0, Go.Value.int Go.IntKind.i64 0, Go.Value.int Go.IntKind.i64 0])), (56, Go.Value.nilIface), (57, Go.Value.nilIface), (58, (Go.Value.tuple #[Go.Value.int Go.IntKind.i64 0, Go.Value.nilIface])), (59, Go.Value.nilFunc), (60, Go.Value.nilFunc), (61, (Go.Value.agg #[Go.Value.string { data := #[] }, Go.Value.string { data := #[] }, Go.Value.int Go.IntKind.i64 0, Go.Value.int Go.IntKind.i64 0, Go.Value.slice none 0 0, Go.Value.int Go.IntKind.i64 0, Go.Value.int Go.IntKind.i64 0])), (62, (Go.Value.agg #[Go.Value.string { data := #[] }, Go.Value.string { data := #[] }, Go.Value.int Go.IntKind.i64 0, Go.Value.int Go.IntKind.i64 0, Go.Value.slice none 0 0, Go.Value.int Go.IntKind.i64 0, Go.Value.int Go.IntKind.i64 0])), (63, Go.Value.nilFunc), (64, (Go.Value.slice none 0 0)), (65, (Go.Value.agg #[Go.Value.int Go.IntKind.i64 0, Go.Value.int Go.IntKind.i64 0, Go.Value.string { data := #[] }, Go.Value.slice none 0 0, Go.Value.int Go.IntKind.i64 0, Go.Value.int Go.IntKind.i64 0, Go.Value.slice none 0 0])), (66, (Go.Value.agg #[Go.Value.int Go.IntKind.i64 0, Go.Value.int Go.IntKind.i64 0, Go.Value.string { data := #[] }, Go.Value.slice none 0 0, Go.Value.int Go.IntKind.i64 0, Go.Value.int Go.IntKind.i64 0, Go.Value.slice none 0 0])), (67, Go.Value.nilFunc), (68, Go.Value.nilFunc), (69, (Go.Value.agg #[Go.Value.string { data := #[] }, Go.Value.string { data := #[] }, Go.Value.string { data := #[] }, Go.Value.string { data := #[] }, Go.Value.string { data := #[] }, Go.Value.string { data := #[] }, Go.Value.string { data := #[] }, Go.Value.string { data := #[] }, Go.Value.string { data := #[] }, Go.Value.string { data := #[] }, Go.Value.string { data := #[] }, Go.Value.string { data := #[] }, Go.Value.string { data := #[] }, Go.Value.string { data := #[] }, Go.Value.string { data := #[] }, Go.Value.string { data := #[] }, Go.Value.string { data := #[] }, Go.Value.string { data := #[] }, Go.Value.string { data := #[] }, Go.Value.string { data := #[] }, Go.Value.string { data := #[] }, Go.Value.string { data := #[] }, Go.Value.string { data := #[] }, Go.Value.string { data := #[] }, Go.Value.string { data := #[] }, Go.Value.string { data := #[] }])), (70, Go.Value.nilFunc), (71, Go.Value.nilFunc), (72, Go.Value.nilFunc), (73, Go.Value.nilFunc), (74, Go.Value.nilFunc), (75, (Go.Value.agg #[Go.Value.string { data := #[] }, Go.Value.int Go.IntKind.i64 0, Go.Value.int Go.IntKind.i64 0, Go.Value.string { data := #[] }, Go.Value.slice none 0 0, Go.Value.int Go.IntKind.i64 0, Go.Value.int Go.IntKind.i64 0, Go.Value.int Go.IntKind.i64 0, Go.Value.int Go.IntKind.i64 0])), (76, (Go.Value.agg #[Go.Value.string { data := #[] }, Go.Value.int Go.IntKind.i64 0, Go.Value.int Go.IntKind.i64 0, Go.Value.string { data := #[] }, Go.Value.slice none 0 0, Go.Value.int Go.IntKind.i64 0, Go.Value.int Go.IntKind.i64 0, Go.Value.int Go.IntKind.i64 0, Go.Value.int Go.IntKind.i64 0])), (77, Go.Value.nilFunc), (78, Go.Value.nilFunc), (79, Go.Value.nilFunc), (80, Go.Value.nilFunc), (81, Go.Value.nilFunc), (82, Go.Value.nilFunc), (83, Go.Value.nilFunc), (84, Go.Value.nilFunc), (85, Go.Value.nilFunc), (86, Go.Value.nilFunc), (87, Go.Value.nilFunc), (88, Go.Value.nilFunc), (89, Go.Value.nilFunc), (90, Go.Value.nilFunc), (91, Go.Value.nilFunc), (92, Go.Value.nilFunc), (93, Go.Value.nilFunc), (94, Go.Value.nilFunc), (95, (Go.Value.pointer none)), (96, Go.Value.nilFunc), (97, Go.Value.nilFunc), (98, Go.Value.nilFunc), (99, Go.Value.nilFunc), (100, Go.Value.nilFunc), (101, Go.Value.nilFunc), (102, Go.Value.nilFunc), (103, Go.Value.nilFunc), (104, (Go.Value.pointer none)), (105, Go.Value.nilFunc), (106, (Go.Value.agg #[Go.Value.int Go.IntKind.u8 0, Go.Value.int Go.IntKind.u8 0, Go.Value.int Go.IntKind.u8 0, Go.Value.int Go.IntKind.u8 0, Go.Value.int Go.IntKind.u8 0, Go.Value.int Go.IntKind.u8 0, Go.Value.int Go.IntKind.u8 0, Go.Value.int Go.IntKind.u8 0, Go.Value.int Go.IntKind.u8 0, Go.Value.int Go.IntKind.u8 0, Go.Value.int Go.IntKind.u8 0, Go.Value.int Go.IntKind.u8 0, Go.Value.int Go.IntKind.u8 0, Go.Value.int Go.IntKind.u8 0, Go.Value.int Go.IntKind.u8 0, Go.Value.int Go.IntKind.u8 0, Go.Value.int Go.IntKind.u8 0, Go.Value.int Go.IntKind.u8 0, Go.Value.int Go.IntKind.u8 0, Go.Value.int Go.IntKind.u8 0, Go.Value.int Go.IntKind.u8 0, Go.Value.int Go.IntKind.u8 0, Go.Value.int Go.IntKind.u8 0, Go.Value.int Go.IntKind.u8 0])), (107, (Go.Value.int Go.IntKind.u64 0)), (108, Go.Value.nilFunc), (109, Go.Value.nilFunc), (110, (Go.Value.tuple #[Go.Value.slice none 0 0, Go.Value.string { data := #[] }])), (111, Go.Value.nilFunc), (112, Go.Value.nilFunc), (113, Go.Value.nilFunc), (114, Go.Value.nilFunc), (115, Go.Value.nilFunc), (116, Go.Value.nilFunc), (117, Go.Value.nilFunc), (118, Go.Value.nilFunc), (119, Go.Value.nilFunc), (120, (Go.Value.agg #[Go.Value.int Go.IntKind.u64 0, Go.Value.int Go.IntKind.u64 0, Go.Value.int Go.IntKind.u64 0, Go.Value.int Go.IntKind.u64 0, Go.Value.int Go.IntKind.u64 0, Go.Value.int Go.IntKind.u64 0, Go.Value.int Go.IntKind.u64 0, Go.Value.int Go.IntKind.u64 0, Go.Value.int Go.IntKind.u64 0, Go.Value.int Go.IntKind.u64 0, Go.Value.int Go.IntKind.u64 0, Go.Value.int Go.IntKind.u64 0, Go.Value.int Go.IntKind.u64 0, Go.Value.int Go.IntKind.u64 0, Go.Value.int Go.IntKind.u64 0, Go.Value.int Go.IntKind.u64 0, Go.Value.int Go.IntKind.u64 0, Go.Value.int Go.IntKind.u64 0, Go.Value.int Go.IntKind.u64 0, Go.Value.int Go.IntKind.u64 0])), (121, (Go.Value.int Go.IntKind.u32 0)), (123, Go.Value.nilFunc), (124, (Go.Value.int Go.IntKind.u64 0)), (125, Go.Value.nilFunc), (126, Go.Value.nilFunc), (127, Go.Value.nilFunc), (128, (Go.Value.agg #[Go.Value.int Go.IntKind.u8 0, Go.Value.int Go.IntKind.u8 0, Go.Value.int Go.IntKind.u8 0, Go.Value.int Go.IntKind.u8 0, Go.Value.int Go.IntKind.u8 0, Go.Value.int Go.IntKind.u8 0, Go.Value.int Go.IntKind.u8 0, Go.Value.int Go.IntKind.u8 0, Go.Value.int Go.IntKind.u8 0, Go.Value.int Go.IntKind.u8 0, Go.Value.int Go.IntKind.u8 0, Go.Value.int Go.IntKind.u8 0, Go.Value.int Go.IntKind.u8 0, Go.Value.int Go.IntKind.u8 0, Go.Value.int Go.IntKind.u8 0, Go.Value.int Go.IntKind.u8 0, Go.Value.int Go.IntKind.u8 0, Go.Value.int Go.IntKind.u8 0, Go.Value.int Go.IntKind.u8 0, Go.Value.int Go.IntKind.u8 0, Go.Value.int Go.IntKind.u8 0, Go.Value.int Go.IntKind.u8 0, Go.Value.int Go.IntKind.u8 0, Go.Value.int Go.IntKind.u8 0, Go.Value.int Go.IntKind.u8 0, Go.Value.int Go.IntKind.u8 0, Go.Value.int Go.IntKind.u8 0, Go.Value.int Go.IntKind.u8 0, Go.Value.int Go.IntKind.u8 0, Go.Value.int Go.IntKind.u8 0, Go.Value.int Go.IntKind.u8 0, Go.Value.int Go.IntKind.u8 0])), (129, (Go.Value.agg #[Go.Value.int Go.IntKind.u8 0, Go.Value.int Go.IntKind.u8 0, Go.Value.int Go.IntKind.u8 0, Go.Value.int Go.IntKind.u8 0, Go.Value.int Go.IntKind.u8 0, Go.Value.int Go.IntKind.u8 0, Go.Value.int Go.IntKind.u8 0, Go.Value.int Go.IntKind.u8 0, Go.Value.int Go.IntKind.u8 0, Go.Value.int Go.IntKind.u8 0, Go.Value.int Go.IntKind.u8 0, Go.Value.int Go.IntKind.u8 0, Go.Value.int Go.IntKind.u8 0, Go.Value.int Go.IntKind.u8 0, Go.Value.int Go.IntKind.u8 0, Go.Value.int Go.IntKind.u8 0, Go.Value.int Go.IntKind.u8 0, Go.Value.int Go.IntKind.u8 0, Go.Value.int Go.IntKind.u8 0, Go.Value.int Go.IntKind.u8 0, Go.Value.int Go.IntKind.u8 0, Go.Value.int Go.IntKind.u8 0, Go.Value.int Go.IntKind.u8 0, Go.Value.int Go.IntKind.u8 0, Go.Value.int Go.IntKind.u8 0, Go.Value.int Go.IntKind.u8 0, Go.Value.int Go.IntKind.u8 0, Go.Value.int Go.IntKind.u8 0, Go.Value.int Go.IntKind.u8 0, Go.Value.int Go.IntKind.u8 0, Go.Value.int Go.IntKind.u8 0, Go.Value.int Go.IntKind.u8 0, Go.Value.int Go.IntKind.u8 0, Go.Value.int Go.IntKind.u8 0, Go.Value.int Go.IntKind.u8 0, Go.Value.int Go.IntKind.u8 0, Go.Value.int Go.IntKind.u8 0, Go.Value.int Go.IntKind.u8 0, Go.Value.int Go.IntKind.u8 0, Go.Value.int Go.IntKind.u8 0, Go.Value.int Go.IntKind.u8 0, Go.Value.int Go.IntKind.u8 0, Go.Value.int Go.IntKind.u8 0, Go.Value.int Go.IntKind.u8 0, Go.Value.int Go.IntKind.u8 0, Go.Value.int Go.IntKind.u8 0, Go.Value.int Go.IntKind.u8 0, Go.Value.int Go.IntKind.u8 0, Go.Value.int Go.IntKind.u8 0, Go.Value.int Go.IntKind.u8 0, Go.Value.int Go.IntKind.u8 0, Go.Value.int Go.IntKind.u8 0, Go.Value.int Go.IntKind.u8 0, Go.Value.int Go.IntKind.u8 0, Go.Value.int Go.IntKind.u8 0, Go.Value.int Go.IntKind.u8 0, Go.Value.int Go.IntKind.u8 0, Go.Value.int Go.IntKind.u8 0, Go.Value.int Go.IntKind.u8 0, Go.Value.int Go.IntKind.u8 0, Go.Value.int Go.IntKind.u8 0, Go.Value.int Go.IntKind.u8 0, Go.Value.int Go.IntKind.u8 0, Go.Value.int Go.IntKind.u8 0])), (130, (Go.Value.agg #[Go.Value.pointer none, Go.Value.pointer none, Go.Value.pointer none, Go.Value.string { data := #[] }])), (131, (Go.Value.agg #[Go.Value.pointer none, Go.Value.pointer none, Go.Value.pointer none, Go.Value.string { data := #[] }])), (132, (Go.Value.agg #[])), (133, (Go.Value.agg #[])), (134, (Go.Value.agg #[])), (135, Go.Value.nilFunc), (136, (Go.Value.int Go.IntKind.u8 0)), (137, (Go.Value.int Go.IntKind.u8 0)), (138, Go.Value.nilFunc), (139, (Go.Value.int Go.IntKind.i32 0)), (140, (Go.Value.int Go.IntKind.i32 0)), (141, (Go.Value.agg #[Go.Value.int Go.IntKind.u64 0, Go.Value.int Go.IntKind.u64 0, Go.Value.int Go.IntKind.u32 0, Go.Value.int Go.IntKind.u8 0, Go.Value.int Go.IntKind.u8 0, Go.Value.int Go.IntKind.u8 0, Go.Value.int Go.IntKind.u8 0, Go.Value.nilFunc, Go.Value.pointer none, Go.Value.int Go.IntKind.i32 0, Go.Value.int Go.IntKind.i32 0])), (142, (Go.Value.agg #[Go.Value.int Go.IntKind.u64 0, Go.Value.int Go.IntKind.u64 0, Go.Value.int Go.IntKind.u32 0, Go.Value.int Go.IntKind.u8 0, Go.Value.int Go.IntKind.u8 0, Go.Value.int Go.IntKind.u8 0, Go.Value.int Go.IntKind.u8 0, Go.Value.nilFunc, Go.Value.pointer none, Go.Value.int Go.IntKind.i32 0, Go.Value.int Go.IntKind.i32 0]))]
def tab : Tab := ⟨tabD, tabS, tabB, tabZ⟩

theorem tabD_ok : ∀ x ∈ tabD, Tryd.prog.underlying x.1 = some x.2 := by
  refine all_cons (Tryd.underlying0) ?_
  refine all_cons (Tryd.underlying1) ?_
  refine all_cons (Tryd.underlying2) ?_
  refine all_cons (Tryd.underlying3) ?_
  refine all_cons (Tryd.underlying4) ?_
  refine all_cons (Tryd.underlying5) ?_
  refine all_cons (Tryd.underlying6) ?_
  refine all_cons (Tryd.underlying7) ?_
  refine all_cons (Tryd.underlying8) ?_
  refine all_cons (Tryd.underlying9) ?_
  refine all_cons (Tryd.underlying10) ?_
  refine all_cons (Tryd.underlying11) ?_
  refine all_cons (Tryd.underlying12) ?_
  refine all_cons (Tryd.underlying13) ?_
  refine all_cons (Tryd.underlying14) ?_
  refine all_cons (Tryd.underlying15) ?_
  refine all_cons (Tryd.underlying16) ?_
  refine all_cons (Tryd.underlying17) ?_
  refine all_cons (Tryd.underlying18) ?_
  refine all_cons (Tryd.underlying19) ?_
  refine all_cons (Tryd.underlying20) ?_
  refine all_cons (Tryd.underlying21) ?_
  refine all_cons (Tryd.underlying22) ?_
  refine all_cons (Tryd.underlying23) ?_
  refine all_cons (Tryd.underlying24) ?_
  refine all_cons (Tryd.underlying25) ?_
  refine all_cons (Tryd.underlying26) ?_
  refine all_cons (Tryd.underlying27) ?_
  refine all_cons (Tryd.underlying28) ?_
  refine all_cons (Tryd.underlying29) ?_
  refine all_cons (Tryd.underlying30) ?_
  refine all_cons (Tryd.underlying31) ?_
  refine all_cons (Tryd.underlying32) ?_
  refine all_cons (Tryd.underlying33) ?_
  refine all_cons (Tryd.underlying34) ?_
  refine all_cons (Tryd.underlying35) ?_
  refine all_cons (Tryd.underlying36) ?_
  refine all_cons (Tryd.underlying37) ?_
  refine all_cons (Tryd.underlying38) ?_
  refine all_cons (Tryd.underlying39) ?_
  refine all_cons (Tryd.underlying40) ?_
  refine all_cons (Tryd.underlying41) ?_
  refine all_cons (Tryd.underlying42) ?_
  refine all_cons (Tryd.underlying43) ?_
  refine all_cons (Tryd.underlying44) ?_
  refine all_cons (Tryd.underlying45) ?_
  refine all_cons (Tryd.underlying46) ?_
  refine all_cons (Tryd.underlying47) ?_
  refine all_cons (Tryd.underlying48) ?_
  refine all_cons (Tryd.underlying49) ?_
  refine all_cons (Tryd.underlying50) ?_
  refine all_cons (Tryd.underlying51) ?_
  refine all_cons (Tryd.underlying52) ?_
  refine all_cons (Tryd.underlying53) ?_
  refine all_cons (Tryd.underlying54) ?_
  refine all_cons (Tryd.underlying55) ?_
  refine all_cons (Tryd.underlying56) ?_
  refine all_cons (Tryd.underlying57) ?_
  refine all_cons (Tryd.underlying58) ?_
  refine all_cons (Tryd.underlying59) ?_
  refine all_cons (Tryd.underlying60) ?_
  refine all_cons (Tryd.underlying61) ?_
  refine all_cons (Tryd.underlying62) ?_
  refine all_cons (Tryd.underlying63) ?_
  refine all_cons (Tryd.underlying64) ?_
  refine all_cons (Tryd.underlying65) ?_
  refine all_cons (Tryd.underlying66) ?_
  refine all_cons (Tryd.underlying67) ?_
  refine all_cons (Tryd.underlying68) ?_
  refine all_cons (Tryd.underlying69) ?_
  refine all_cons (Tryd.underlying70) ?_
  refine all_cons (Tryd.underlying71) ?_
  refine all_cons (Tryd.underlying72) ?_
  refine all_cons (Tryd.underlying73) ?_
  refine all_cons (Tryd.underlying74) ?_
  refine all_cons (Tryd.underlying75) ?_
  refine all_cons (Tryd.underlying76) ?_
  refine all_cons (Tryd.underlying77) ?_
  refine all_cons (Tryd.underlying78) ?_
  refine all_cons (Tryd.underlying79) ?_
  refine all_cons (Tryd.underlying80) ?_
  refine all_cons (Tryd.underlying81) ?_
  refine all_cons (Tryd.underlying82) ?_
  refine all_cons (Tryd.underlying83) ?_
  refine all_cons (Tryd.underlying84) ?_
  refine all_cons (Tryd.underlying85) ?_
  refine all_cons (Tryd.underlying86) ?_
  refine all_cons (Tryd.underlying87) ?_
  refine all_cons (Tryd.underlying88) ?_
  refine all_cons (Tryd.underlying89) ?_
  refine all_cons (Tryd.underlying90) ?_
  refine all_cons (Tryd.underlying91) ?_
  refine all_cons (Tryd.underlying92) ?_
  refine all_cons (Tryd.underlying93) ?_
  refine all_cons (Tryd.underlying94) ?_
  refine all_cons (Tryd.underlying95) ?_
  refine all_cons (Tryd.underlying96) ?_
  refine all_cons (Tryd.underlying97) ?_
  refine all_cons (Tryd.underlying98) ?_
  refine all_cons (Tryd.underlying99) ?_
  refine all_cons (Tryd.underlying100) ?_
  refine all_cons (Tryd.underlying101) ?_
  refine all_cons (Tryd.underlying102) ?_
  refine all_cons (Tryd.underlying103) ?_
  refine all_cons (Tryd.underlying104) ?_
  refine all_cons (Tryd.underlying105) ?_
  refine all_cons (Tryd.underlying106) ?_
  refine all_cons (Tryd.underlying107) ?_
  refine all_cons (Tryd.underlying108) ?_
  refine all_cons (Tryd.underlying109) ?_
  refine all_cons (Tryd.underlying110) ?_
  refine all_cons (Tryd.underlying111) ?_
  refine all_cons (Tryd.underlying112) ?_
  refine all_cons (Tryd.underlying113) ?_
  refine all_cons (Tryd.underlying114) ?_
  refine all_cons (Tryd.underlying115) ?_
  refine all_cons (Tryd.underlying116) ?_
  refine all_cons (Tryd.underlying117) ?_
  refine all_cons (Tryd.underlying118) ?_
  refine all_cons (Tryd.underlying119) ?_
  refine all_cons (Tryd.underlying120) ?_
  refine all_cons (Tryd.underlying121) ?_
  refine all_cons (Tryd.underlying122) ?_
  refine all_cons (Tryd.underlying123) ?_
  refine all_cons (Tryd.underlying124) ?_
  refine all_cons (Tryd.underlying125) ?_
  refine all_cons (Tryd.underlying126) ?_
  refine all_cons (Tryd.underlying127) ?_
  refine all_cons (Tryd.underlying128) ?_
  refine all_cons (Tryd.underlying129) ?_
  refine all_cons (Tryd.underlying130) ?_
  refine all_cons (Tryd.underlying131) ?_
  refine all_cons (Tryd.underlying132) ?_
  refine all_cons (Tryd.underlying133) ?_
  refine all_cons (Tryd.underlying134) ?_
  refine all_cons (Tryd.underlying135) ?_
  refine all_cons (Tryd.underlying136) ?_
  refine all_cons (Tryd.underlying137) ?_
  refine all_cons (Tryd.underlying138) ?_
  refine all_cons (Tryd.underlying139) ?_
  refine all_cons (Tryd.underlying140) ?_
  refine all_cons (Tryd.underlying141) ?_
  refine all_cons (Tryd.underlying142) ?_
  exact fun _ h => nomatch h

theorem tabS_ok : ∀ x ∈ tabS, ∀ w, (sizeOf x.1).run Tryd.prog w = .ok x.2 w := by
  refine all_cons (Tryd.sizeOf0) ?_
  refine all_cons (Tryd.sizeOf1) ?_
  refine all_cons (Tryd.sizeOf2) ?_
  refine all_cons (Tryd.sizeOf3) ?_
  refine all_cons (Tryd.sizeOf4) ?_
  refine all_cons (Tryd.sizeOf5) ?_
  refine all_cons (Tryd.sizeOf6) ?_
  refine all_cons (Tryd.sizeOf7) ?_
  refine all_cons (Tryd.sizeOf8) ?_
  refine all_cons (Tryd.sizeOf9) ?_
  refine all_cons (Tryd.sizeOf10) ?_
  refine all_cons (Tryd.sizeOf11) ?_
  refine all_cons (Tryd.sizeOf12) ?_
  refine all_cons (Tryd.sizeOf13) ?_
  refine all_cons (Tryd.sizeOf14) ?_
  refine all_cons (Tryd.sizeOf15) ?_
  refine all_cons (Tryd.sizeOf16) ?_
  refine all_cons (Tryd.sizeOf17) ?_
  refine all_cons (Tryd.sizeOf18) ?_
  refine all_cons (Tryd.sizeOf19) ?_
  refine all_cons (Tryd.sizeOf20) ?_
  refine all_cons (Tryd.sizeOf21) ?_
  refine all_cons (Tryd.sizeOf22) ?_
  refine all_cons (Tryd.sizeOf23) ?_
  refine all_cons (Tryd.sizeOf24) ?_
  refine all_cons (Tryd.sizeOf25) ?_
  refine all_cons (Tryd.sizeOf26) ?_
  refine all_cons (Tryd.sizeOf27) ?_
  refine all_cons (Tryd.sizeOf28) ?_
  refine all_cons (Tryd.sizeOf29) ?_
  refine all_cons (Tryd.sizeOf30) ?_
  refine all_cons (Tryd.sizeOf31) ?_
  refine all_cons (Tryd.sizeOf32) ?_
  refine all_cons (Tryd.sizeOf33) ?_
  refine all_cons (Tryd.sizeOf34) ?_
  refine all_cons (Tryd.sizeOf35) ?_
  refine all_cons (Tryd.sizeOf36) ?_
  refine all_cons (Tryd.sizeOf37) ?_
  refine all_cons (Tryd.sizeOf38) ?_
  refine all_cons (Tryd.sizeOf39) ?_
  refine all_cons (Tryd.sizeOf40) ?_
  refine all_cons (Tryd.sizeOf41) ?_
  refine all_cons (Tryd.sizeOf42) ?_
  refine all_cons (Tryd.sizeOf43) ?_
  refine all_cons (Tryd.sizeOf44) ?_
  refine all_cons (Tryd.sizeOf45) ?_
  refine all_cons (Tryd.sizeOf46) ?_
  refine all_cons (Tryd.sizeOf47) ?_
  refine all_cons (Tryd.sizeOf48) ?_
  refine all_cons (Tryd.sizeOf49) ?_
  refine all_cons (Tryd.sizeOf50) ?_
  refine all_cons (Tryd.sizeOf51) ?_
  refine all_cons (Tryd.sizeOf52) ?_
  refine all_cons (Tryd.sizeOf53) ?_
  refine all_cons (Tryd.sizeOf54) ?_
  refine all_cons (Tryd.sizeOf55) ?_
  refine all_cons (Tryd.sizeOf56) ?_
  refine all_cons (Tryd.sizeOf57) ?_
  refine all_cons (Tryd.sizeOf58) ?_
  refine all_cons (Tryd.sizeOf59) ?_
  refine all_cons (Tryd.sizeOf60) ?_
  refine all_cons (Tryd.sizeOf61) ?_
  refine all_cons (Tryd.sizeOf62) ?_
  refine all_cons (Tryd.sizeOf63) ?_
  refine all_cons (Tryd.sizeOf64) ?_
  refine all_cons (Tryd.sizeOf65) ?_
  refine all_cons (Tryd.sizeOf66) ?_
  refine all_cons (Tryd.sizeOf67) ?_
  refine all_cons (Tryd.sizeOf68) ?_
  refine all_cons (Tryd.sizeOf69) ?_
  refine all_cons (Tryd.sizeOf70) ?_
  refine all_cons (Tryd.sizeOf71) ?_
  refine all_cons (Tryd.sizeOf72) ?_
  refine all_cons (Tryd.sizeOf73) ?_
  refine all_cons (Tryd.sizeOf74) ?_
  refine all_cons (Tryd.sizeOf75) ?_
  refine all_cons (Tryd.sizeOf76) ?_
  refine all_cons (Tryd.sizeOf77) ?_
  refine all_cons (Tryd.sizeOf78) ?_
  refine all_cons (Tryd.sizeOf79) ?_
  refine all_cons (Tryd.sizeOf80) ?_
  refine all_cons (Tryd.sizeOf81) ?_
  refine all_cons (Tryd.sizeOf82) ?_
  refine all_cons (Tryd.sizeOf83) ?_
  refine all_cons (Tryd.sizeOf84) ?_
  refine all_cons (Tryd.sizeOf85) ?_
  refine all_cons (Tryd.sizeOf86) ?_
  refine all_cons (Tryd.sizeOf87) ?_
  refine all_cons (Tryd.sizeOf88) ?_
  refine all_cons (Tryd.sizeOf89) ?_
  refine all_cons (Tryd.sizeOf90) ?_
  refine all_cons (Tryd.sizeOf91) ?_
  refine all_cons (Tryd.sizeOf92) ?_
  refine all_cons (Tryd.sizeOf93) ?_
  refine all_cons (Tryd.sizeOf94) ?_
  refine all_cons (Tryd.sizeOf95) ?_
  refine all_cons (Tryd.sizeOf96) ?_
  refine all_cons (Tryd.sizeOf97) ?_
  refine all_cons (Tryd.sizeOf98) ?_
  refine all_cons (Tryd.sizeOf99) ?_
  refine all_cons (Tryd.sizeOf100) ?_
  refine all_cons (Tryd.sizeOf101) ?_
  refine all_cons (Tryd.sizeOf102) ?_
  refine all_cons (Tryd.sizeOf103) ?_
  refine all_cons (Tryd.sizeOf104) ?_
  refine all_cons (Tryd.sizeOf105) ?_
  refine all_cons (Tryd.sizeOf106) ?_
  refine all_cons (Tryd.sizeOf107) ?_
  refine all_cons (Tryd.sizeOf108) ?_
  refine all_cons (Tryd.sizeOf109) ?_
  refine all_cons (Tryd.sizeOf110) ?_
  refine all_cons (Tryd.sizeOf111) ?_
  refine all_cons (Tryd.sizeOf112) ?_
  refine all_cons (Tryd.sizeOf113) ?_
  refine all_cons (Tryd.sizeOf114) ?_
  refine all_cons (Tryd.sizeOf115) ?_
  refine all_cons (Tryd.sizeOf116) ?_
  refine all_cons (Tryd.sizeOf117) ?_
  refine all_cons (Tryd.sizeOf118) ?_
  refine all_cons (Tryd.sizeOf119) ?_
  refine all_cons (Tryd.sizeOf120) ?_
  refine all_cons (Tryd.sizeOf121) ?_
  refine all_cons (Tryd.sizeOf122) ?_
  refine all_cons (Tryd.sizeOf123) ?_
  refine all_cons (Tryd.sizeOf124) ?_
  refine all_cons (Tryd.sizeOf125) ?_
  refine all_cons (Tryd.sizeOf126) ?_
  refine all_cons (Tryd.sizeOf127) ?_
  refine all_cons (Tryd.sizeOf128) ?_
  refine all_cons (Tryd.sizeOf129) ?_
  refine all_cons (Tryd.sizeOf130) ?_
  refine all_cons (Tryd.sizeOf131) ?_
  refine all_cons (Tryd.sizeOf132) ?_
  refine all_cons (Tryd.sizeOf133) ?_
  refine all_cons (Tryd.sizeOf134) ?_
  refine all_cons (Tryd.sizeOf135) ?_
  refine all_cons (Tryd.sizeOf136) ?_
  refine all_cons (Tryd.sizeOf137) ?_
  refine all_cons (Tryd.sizeOf138) ?_
  refine all_cons (Tryd.sizeOf139) ?_
  refine all_cons (Tryd.sizeOf140) ?_
  refine all_cons (Tryd.sizeOf141) ?_
  refine all_cons (Tryd.sizeOf142) ?_
  exact fun _ h => nomatch h

theorem tabB_ok : ∀ x ∈ tabB, ∀ w, ∃ i, (typeInfo x.1).run Tryd.prog w = .ok i w ∧ i.bytes = x.2 := by
  refine all_cons (fun w => ⟨_, Tryd.typeInfo0 w, rfl⟩) ?_
  refine all_cons (fun w => ⟨_, Tryd.typeInfo1 w, rfl⟩) ?_
  refine all_cons (fun w => ⟨_, Tryd.typeInfo2 w, rfl⟩) ?_
  refine all_cons (fun w => ⟨_, Tryd.typeInfo3 w, rfl⟩) ?_
  refine all_cons (fun w => ⟨_, Tryd.typeInfo4 w, rfl⟩) ?_
  refine all_cons (fun w => ⟨_, Tryd.typeInfo5 w, rfl⟩) ?_
  refine all_cons (fun w => ⟨_, Tryd.typeInfo6 w, rfl⟩) ?_
  refine all_cons (fun w => ⟨_, Tryd.typeInfo7 w, rfl⟩) ?_
  refine all_cons (fun w => ⟨_, Tryd.typeInfo8 w, rfl⟩) ?_
  refine all_cons (fun w => ⟨_, Tryd.typeInfo9 w, rfl⟩) ?_
  refine all_cons (fun w => ⟨_, Tryd.typeInfo10 w, rfl⟩) ?_
  refine all_cons (fun w => ⟨_, Tryd.typeInfo11 w, rfl⟩) ?_
  refine all_cons (fun w => ⟨_, Tryd.typeInfo12 w, rfl⟩) ?_
  refine all_cons (fun w => ⟨_, Tryd.typeInfo13 w, rfl⟩) ?_
  refine all_cons (fun w => ⟨_, Tryd.typeInfo14 w, rfl⟩) ?_
  refine all_cons (fun w => ⟨_, Tryd.typeInfo15 w, rfl⟩) ?_
  refine all_cons (fun w => ⟨_, Tryd.typeInfo16 w, rfl⟩) ?_
  refine all_cons (fun w => ⟨_, Tryd.typeInfo17 w, rfl⟩) ?_
  refine all_cons (fun w => ⟨_, Tryd.typeInfo18 w, rfl⟩) ?_
  refine all_cons (fun w => ⟨_, Tryd.typeInfo19 w, rfl⟩) ?_
  refine all_cons (fun w => ⟨_, Tryd.typeInfo20 w, rfl⟩) ?_
  refine all_cons (fun w => ⟨_, Tryd.typeInfo21 w, rfl⟩) ?_
  refine all_cons (fun w => ⟨_, Tryd.typeInfo22 w, rfl⟩) ?_
  refine all_cons (fun w => ⟨_, Tryd.typeInfo23 w, rfl⟩) ?_
  refine all_cons (fun w => ⟨_, Tryd.typeInfo24 w, rfl⟩) ?_
  refine all_cons (fun w => ⟨_, Tryd.typeInfo25 w, rfl⟩) ?_
  refine all_cons (fun w => ⟨_, Tryd.typeInfo26 w, rfl⟩) ?_
  refine all_cons (fun w => ⟨_, Tryd.typeInfo27 w, rfl⟩) ?_
  refine all_cons (fun w => ⟨_, Tryd.typeInfo28 w, rfl⟩) ?_
  refine all_cons (fun w => ⟨_, Tryd.typeInfo29 w, rfl⟩) ?_
  refine all_cons (fun w => ⟨_, Tryd.typeInfo30 w, rfl⟩) ?_
  refine all_cons (fun w => ⟨_, Tryd.typeInfo31 w, rfl⟩) ?_
  refine all_cons (fun w => ⟨_, Tryd.typeInfo32 w, rfl⟩) ?_
  refine all_cons (fun w => ⟨_, Tryd.typeInfo33 w, rfl⟩) ?_
  refine all_cons (fun w => ⟨_, Tryd.typeInfo34 w, rfl⟩) ?_
  refine all_cons (fun w => ⟨_, Tryd.typeInfo35 w, rfl⟩) ?_
  refine all_cons (fun w => ⟨_, Tryd.typeInfo36 w, rfl⟩) ?_
  refine all_cons (fun w => ⟨_, Tryd.typeInfo37 w, rfl⟩) ?_
  refine all_cons (fun w => ⟨_, Tryd.typeInfo38 w, rfl⟩) ?_
  refine all_cons (fun w => ⟨_, Tryd.typeInfo39 w, rfl⟩) ?_
  refine all_cons (fun w => ⟨_, Tryd.typeInfo40 w, rfl⟩) ?_
  refine all_cons (fun w => ⟨_, Tryd.typeInfo41 w, rfl⟩) ?_
  refine all_cons (fun w => ⟨_, Tryd.typeInfo42 w, rfl⟩) ?_
  refine all_cons (fun w => ⟨_, Tryd.typeInfo43 w, rfl⟩) ?_
  refine all_cons (fun w => ⟨_, Tryd.typeInfo44 w, rfl⟩) ?_
  refine all_cons (fun w => ⟨_, Tryd.typeInfo45 w, rfl⟩) ?_
  refine all_cons (fun w => ⟨_, Tryd.typeInfo46 w, rfl⟩) ?_
  refine all_cons (fun w => ⟨_, Tryd.typeInfo47 w, rfl⟩) ?_
  refine all_cons (fun w => ⟨_, Tryd.typeInfo48 w, rfl⟩) ?_
  refine all_cons (fun w => ⟨_, Tryd.typeInfo49 w, rfl⟩) ?_
  refine all_cons (fun w => ⟨_, Tryd.typeInfo50 w, rfl⟩) ?_
  refine all_cons (fun w => ⟨_, Tryd.typeInfo51 w, rfl⟩) ?_
  refine all_cons (fun w => ⟨_, Tryd.typeInfo52 w, rfl⟩) ?_
  refine all_cons (fun w => ⟨_, Tryd.typeInfo53 w, rfl⟩) ?_
  refine all_cons (fun w => ⟨_, Tryd.typeInfo54 w, rfl⟩) ?_
  refine all_cons (fun w => ⟨_, Tryd.typeInfo55 w, rfl⟩) ?_
  refine all_cons (fun w => ⟨_, Tryd.typeInfo56 w, rfl⟩) ?_
  refine all_cons (fun w => ⟨_, Tryd.typeInfo57 w, rfl⟩) ?_
  refine all_cons (fun w => ⟨_, Tryd.typeInfo58 w, rfl⟩) ?_
  refine all_cons (fun w => ⟨_, Tryd.typeInfo59 w, rfl⟩) ?_
  refine all_cons (fun w => ⟨_, Tryd.typeInfo60 w, rfl⟩) ?_
  refine all_cons (fun w => ⟨_, Tryd.typeInfo61 w, rfl⟩) ?_
  refine all_cons (fun w => ⟨_, Tryd.typeInfo62 w, rfl⟩) ?_
  refine all_cons (fun w => ⟨_, Tryd.typeInfo63 w, rfl⟩) ?_
  refine all_cons (fun w => ⟨_, Tryd.typeInfo64 w, rfl⟩) ?_
  refine all_cons (fun w => ⟨_, Tryd.typeInfo65 w, rfl⟩) ?_
  refine all_cons (fun w => ⟨_, Tryd.typeInfo66 w, rfl⟩) ?_
  refine all_cons (fun w => ⟨_, Tryd.typeInfo67 w, rfl⟩) ?_
  refine all_cons (fun w => ⟨_, Tryd.typeInfo68 w, rfl⟩) ?_
  refine all_cons (fun w => ⟨_, Tryd.typeInfo69 w, rfl⟩) ?_
  refine all_cons (fun w => ⟨_, Tryd.typeInfo70 w, rfl⟩) ?_
  refine all_cons (fun w => ⟨_, Tryd.typeInfo71 w, rfl⟩) ?_
  refine all_cons (fun w => ⟨_, Tryd.typeInfo72 w, rfl⟩) ?_
  refine all_cons (fun w => ⟨_, Tryd.typeInfo73 w, rfl⟩) ?_
  refine all_cons (fun w => ⟨_, Tryd.typeInfo74 w, rfl⟩) ?_
  refine all_cons (fun w => ⟨_, Tryd.typeInfo75 w, rfl⟩) ?_
  refine all_cons (fun w => ⟨_, Tryd.typeInfo76 w, rfl⟩) ?_
  refine all_cons (fun w => ⟨_, Tryd.typeInfo77 w, rfl⟩) ?_
  refine all_cons (fun w => ⟨_, Tryd.typeInfo78 w, rfl⟩) ?_
  refine all_cons (fun w => ⟨_, Tryd.typeInfo79 w, rfl⟩) ?_
  refine all_cons (fun w => ⟨_, Tryd.typeInfo80 w, rfl⟩) ?_
  refine all_cons (fun w => ⟨_, Tryd.typeInfo81 w, rfl⟩) ?_
  refine all_cons (fun w => ⟨_, Tryd.typeInfo82 w, rfl⟩) ?_
  refine all_cons (fun w => ⟨_, Tryd.typeInfo83 w, rfl⟩) ?_
  refine all_cons (fun w => ⟨_, Tryd.typeInfo84 w, rfl⟩) ?_
  refine all_cons (fun w => ⟨_, Tryd.typeInfo85 w, rfl⟩) ?_
  refine all_cons (fun w => ⟨_, Tryd.typeInfo86 w, rfl⟩) ?_
  refine all_cons (fun w => ⟨_, Tryd.typeInfo87 w, rfl⟩) ?_
  refine all_cons (fun w => ⟨_, Tryd.typeInfo88 w, rfl⟩) ?_
  refine all_cons (fun w => ⟨_, Tryd.typeInfo89 w, rfl⟩) ?_
  refine all_cons (fun w => ⟨_, Tryd.typeInfo90 w, rfl⟩) ?_
  refine all_cons (fun w => ⟨_, Tryd.typeInfo91 w, rfl⟩) ?_
  refine all_cons (fun w => ⟨_, Tryd.typeInfo92 w, rfl⟩) ?_
  refine all_cons (fun w => ⟨_, Tryd.typeInfo93 w, rfl⟩) ?_
  refine all_cons (fun w => ⟨_, Tryd.typeInfo94 w, rfl⟩) ?_
  refine all_cons (fun w => ⟨_, Tryd.typeInfo95 w, rfl⟩) ?_
  refine all_cons (fun w => ⟨_, Tryd.typeInfo96 w, rfl⟩) ?_
  refine all_cons (fun w => ⟨_, Tryd.typeInfo97 w, rfl⟩) ?_
  refine all_cons (fun w => ⟨_, Tryd.typeInfo98 w, rfl⟩) ?_
  refine all_cons (fun w => ⟨_, Tryd.typeInfo99 w, rfl⟩) ?_
  refine all_cons (fun w => ⟨_, Tryd.typeInfo100 w, rfl⟩) ?_
  refine all_cons (fun w => ⟨_, Tryd.typeInfo101 w, rfl⟩) ?_
  refine all_cons (fun w => ⟨_, Tryd.typeInfo102 w, rfl⟩) ?_
  refine all_cons (fun w => ⟨_, Tryd.typeInfo103 w, rfl⟩) ?_
  refine all_cons (fun w => ⟨_, Tryd.typeInfo104 w, rfl⟩) ?_
  refine all_cons (fun w => ⟨_, Tryd.typeInfo105 w, rfl⟩) ?_
  refine all_cons (fun w => ⟨_, Tryd.typeInfo106 w, rfl⟩) ?_
  refine all_cons (fun w => ⟨_, Tryd.typeInfo107 w, rfl⟩) ?_
  refine all_cons (fun w => ⟨_, Tryd.typeInfo108 w, rfl⟩) ?_
  refine all_cons (fun w => ⟨_, Tryd.typeInfo109 w, rfl⟩) ?_
  refine all_cons (fun w => ⟨_, Tryd.typeInfo110 w, rfl⟩) ?_
  refine all_cons (fun w => ⟨_, Tryd.typeInfo111 w, rfl⟩) ?_
  refine all_cons (fun w => ⟨_, Tryd.typeInfo112 w, rfl⟩) ?_
  refine all_cons (fun w => ⟨_, Tryd.typeInfo113 w, rfl⟩) ?_
  refine all_cons (fun w => ⟨_, Tryd.typeInfo114 w, rfl⟩) ?_
  refine all_cons (fun w => ⟨_, Tryd.typeInfo115 w, rfl⟩) ?_
  refine all_cons (fun w => ⟨_, Tryd.typeInfo116 w, rfl⟩) ?_
  refine all_cons (fun w => ⟨_, Tryd.typeInfo117 w, rfl⟩) ?_
  refine all_cons (fun w => ⟨_, Tryd.typeInfo118 w, rfl⟩) ?_
  refine all_cons (fun w => ⟨_, Tryd.typeInfo119 w, rfl⟩) ?_
  refine all_cons (fun w => ⟨_, Tryd.typeInfo120 w, rfl⟩) ?_
  refine all_cons (fun w => ⟨_, Tryd.typeInfo121 w, rfl⟩) ?_
  refine all_cons (fun w => ⟨_, Tryd.typeInfo122 w, rfl⟩) ?_
  refine all_cons (fun w => ⟨_, Tryd.typeInfo123 w, rfl⟩) ?_
  refine all_cons (fun w => ⟨_, Tryd.typeInfo124 w, rfl⟩) ?_
  refine all_cons (fun w => ⟨_, Tryd.typeInfo125 w, rfl⟩) ?_
  refine all_cons (fun w => ⟨_, Tryd.typeInfo126 w, rfl⟩) ?_
  refine all_cons (fun w => ⟨_, Tryd.typeInfo127 w, rfl⟩) ?_
  refine all_cons (fun w => ⟨_, Tryd.typeInfo128 w, rfl⟩) ?_
  refine all_cons (fun w => ⟨_, Tryd.typeInfo129 w, rfl⟩) ?_
  refine all_cons (fun w => ⟨_, Tryd.typeInfo130 w, rfl⟩) ?_
  refine all_cons (fun w => ⟨_, Tryd.typeInfo131 w, rfl⟩) ?_
  refine all_cons (fun w => ⟨_, Tryd.typeInfo132 w, rfl⟩) ?_
  refine all_cons (fun w => ⟨_, Tryd.typeInfo133 w, rfl⟩) ?_
  refine all_cons (fun w => ⟨_, Tryd.typeInfo134 w, rfl⟩) ?_
  refine all_cons (fun w => ⟨_, Tryd.typeInfo135 w, rfl⟩) ?_
  refine all_cons (fun w => ⟨_, Tryd.typeInfo136 w, rfl⟩) ?_
  refine all_cons (fun w => ⟨_, Tryd.typeInfo137 w, rfl⟩) ?_
  refine all_cons (fun w => ⟨_, Tryd.typeInfo138 w, rfl⟩) ?_
  refine all_cons (fun w => ⟨_, Tryd.typeInfo139 w, rfl⟩) ?_
  refine all_cons (fun w => ⟨_, Tryd.typeInfo140 w, rfl⟩) ?_
  refine all_cons (fun w => ⟨_, Tryd.typeInfo141 w, rfl⟩) ?_
  refine all_cons (fun w => ⟨_, Tryd.typeInfo142 w, rfl⟩) ?_
  exact fun _ h => nomatch h

theorem tabZ_ok : ∀ x ∈ tabZ, ∀ w, (zeroValue x.1).run Tryd.prog w = .ok x.2 w := by
  refine all_cons (Tryd.zeroValue0) ?_
  refine all_cons (Tryd.zeroValue1) ?_
  refine all_cons (Tryd.zeroValue2) ?_
  refine all_cons (Tryd.zeroValue3) ?_
  refine all_cons (Tryd.zeroValue4) ?_
  refine all_cons (Tryd.zeroValue5) ?_
  refine all_cons (Tryd.zeroValue6) ?_
  refine all_cons (Tryd.zeroValue7) ?_
  refine all_cons (Tryd.zeroValue8) ?_
  refine all_cons (Tryd.zeroValue9) ?_
  refine all_cons (Tryd.zeroValue10) ?_
  refine all_cons (Tryd.zeroValue11) ?_
  refine all_cons (Tryd.zeroValue12) ?_
  refine all_cons (Tryd.zeroValue13) ?_
  refine all_cons (Tryd.zeroValue14) ?_
  refine all_cons (Tryd.zeroValue15) ?_
  refine all_cons (Tryd.zeroValue16) ?_
  refine all_cons (Tryd.zeroValue17) ?_
  refine all_cons (Tryd.zeroValue18) ?_
  refine all_cons (Tryd.zeroValue19) ?_
  refine all_cons (Tryd.zeroValue20) ?_
  refine all_cons (Tryd.zeroValue21) ?_
  refine all_cons (Tryd.zeroValue22) ?_
  refine all_cons (Tryd.zeroValue23) ?_
  refine all_cons (Tryd.zeroValue24) ?_
  refine all_cons (Tryd.zeroValue25) ?_
  refine all_cons (Tryd.zeroValue26) ?_
  refine all_cons (Tryd.zeroValue27) ?_
  refine all_cons (Tryd.zeroValue28) ?_
  refine all_cons (Tryd.zeroValue29) ?_
  refine all_cons (Tryd.zeroValue30) ?_
  refine all_cons (Tryd.zeroValue31) ?_
  refine all_cons (Tryd.zeroValue32) ?_
  refine all_cons (Tryd.zeroValue33) ?_
  refine all_cons (Tryd.zeroValue34) ?_
  refine all_cons (Tryd.zeroValue35) ?_
  refine all_cons (Tryd.zeroValue36) ?_
  refine all_cons (Tryd.zeroValue37) ?_
  refine all_cons (Tryd.zeroValue38) ?_
  refine all_cons (Tryd.zeroValue39) ?_
  refine all_cons (Tryd.zeroValue40) ?_
  refine all_cons (Tryd.zeroValue41) ?_
  refine all_cons (Tryd.zeroValue42) ?_
  refine all_cons (Tryd.zeroValue43) ?_
  refine all_cons (Tryd.zeroValue44) ?_
  refine all_cons (Tryd.zeroValue45) ?_
  refine all_cons (Tryd.zeroValue46) ?_
  refine all_cons (Tryd.zeroValue47) ?_
  refine all_cons (Tryd.zeroValue48) ?_
  refine all_cons (Tryd.zeroValue49) ?_
  refine all_cons (Tryd.zeroValue50) ?_
  refine all_cons (Tryd.zeroValue51) ?_
  refine all_cons (Tryd.zeroValue52) ?_
  refine all_cons (Tryd.zeroValue53) ?_
  refine all_cons (Tryd.zeroValue54) ?_
  refine all_cons (Tryd.zeroValue55) ?_
  refine all_cons (Tryd.zeroValue56) ?_
  refine all_cons (Tryd.zeroValue57) ?_
  refine all_cons (Tryd.zeroValue58) ?_
  refine all_cons (Tryd.zeroValue59) ?_
  refine all_cons (Tryd.zeroValue60) ?_
  refine all_cons (Tryd.zeroValue61) ?_
  refine all_cons (Tryd.zeroValue62) ?_
  refine all_cons (Tryd.zeroValue63) ?_
  refine all_cons (Tryd.zeroValue64) ?_
  refine all_cons (Tryd.zeroValue65) ?_
  refine all_cons (Tryd.zeroValue66) ?_
  refine all_cons (Tryd.zeroValue67) ?_
  refine all_cons (Tryd.zeroValue68) ?_
  refine all_cons (Tryd.zeroValue69) ?_
  refine all_cons (Tryd.zeroValue70) ?_
  refine all_cons (Tryd.zeroValue71) ?_
  refine all_cons (Tryd.zeroValue72) ?_
  refine all_cons (Tryd.zeroValue73) ?_
  refine all_cons (Tryd.zeroValue74) ?_
  refine all_cons (Tryd.zeroValue75) ?_
  refine all_cons (Tryd.zeroValue76) ?_
  refine all_cons (Tryd.zeroValue77) ?_
  refine all_cons (Tryd.zeroValue78) ?_
  refine all_cons (Tryd.zeroValue79) ?_
  refine all_cons (Tryd.zeroValue80) ?_
  refine all_cons (Tryd.zeroValue81) ?_
  refine all_cons (Tryd.zeroValue82) ?_
  refine all_cons (Tryd.zeroValue83) ?_
  refine all_cons (Tryd.zeroValue84) ?_
  refine all_cons (Tryd.zeroValue85) ?_
  refine all_cons (Tryd.zeroValue86) ?_
  refine all_cons (Tryd.zeroValue87) ?_
  refine all_cons (Tryd.zeroValue88) ?_
  refine all_cons (Tryd.zeroValue89) ?_
  refine all_cons (Tryd.zeroValue90) ?_
  refine all_cons (Tryd.zeroValue91) ?_
  refine all_cons (Tryd.zeroValue92) ?_
  refine all_cons (Tryd.zeroValue93) ?_
  refine all_cons (Tryd.zeroValue94) ?_
  refine all_cons (Tryd.zeroValue95) ?_
  refine all_cons (Tryd.zeroValue96) ?_
  refine all_cons (Tryd.zeroValue97) ?_
  refine all_cons (Tryd.zeroValue98) ?_
  refine all_cons (Tryd.zeroValue99) ?_
  refine all_cons (Tryd.zeroValue100) ?_
  refine all_cons (Tryd.zeroValue101) ?_
  refine all_cons (Tryd.zeroValue102) ?_
  refine all_cons (Tryd.zeroValue103) ?_
  refine all_cons (Tryd.zeroValue104) ?_
  refine all_cons (Tryd.zeroValue105) ?_
  refine all_cons (Tryd.zeroValue106) ?_
  refine all_cons (Tryd.zeroValue107) ?_
  refine all_cons (Tryd.zeroValue108) ?_
  refine all_cons (Tryd.zeroValue109) ?_
  refine all_cons (Tryd.zeroValue110) ?_
  refine all_cons (Tryd.zeroValue111) ?_
  refine all_cons (Tryd.zeroValue112) ?_
  refine all_cons (Tryd.zeroValue113) ?_
  refine all_cons (Tryd.zeroValue114) ?_
  refine all_cons (Tryd.zeroValue115) ?_
  refine all_cons (Tryd.zeroValue116) ?_
  refine all_cons (Tryd.zeroValue117) ?_
  refine all_cons (Tryd.zeroValue118) ?_
  refine all_cons (Tryd.zeroValue119) ?_
  refine all_cons (Tryd.zeroValue120) ?_
  refine all_cons (Tryd.zeroValue121) ?_
  refine all_cons (Tryd.zeroValue123) ?_
  refine all_cons (Tryd.zeroValue124) ?_
  refine all_cons (Tryd.zeroValue125) ?_
  refine all_cons (Tryd.zeroValue126) ?_
  refine all_cons (Tryd.zeroValue127) ?_
  refine all_cons (Tryd.zeroValue128) ?_
  refine all_cons (Tryd.zeroValue129) ?_
  refine all_cons (Tryd.zeroValue130) ?_
  refine all_cons (Tryd.zeroValue131) ?_
  refine all_cons (Tryd.zeroValue132) ?_
  refine all_cons (Tryd.zeroValue133) ?_
  refine all_cons (Tryd.zeroValue134) ?_
  refine all_cons (Tryd.zeroValue135) ?_
  refine all_cons (Tryd.zeroValue136) ?_
  refine all_cons (Tryd.zeroValue137) ?_
  refine all_cons (Tryd.zeroValue138) ?_
  refine all_cons (Tryd.zeroValue139) ?_
  refine all_cons (Tryd.zeroValue140) ?_
  refine all_cons (Tryd.zeroValue141) ?_
  refine all_cons (Tryd.zeroValue142) ?_
  exact fun _ h => nomatch h

theorem tok : TabOk Tryd.prog tab := ⟨tabD_ok, tabS_ok, tabB_ok, tabZ_ok⟩

end Go.Proofs.YthpekiohalejmaaDoor
