/- What is known of the types of this seat: written by a program, off the seat's own facts. -/
import Derived.Test.YtpllmfoaahaciaaProg
import Derived.Test.YtpllmfoaahaciaaVc
namespace Go.Proofs.Ytpllmfoaahaciaa
open Go Go.Vc

theorem all_cons {α : Type} {p : α → Prop} {x : α} {l : List α} (h : p x) (r : ∀ y ∈ l, p y) : ∀ y ∈ x :: l, p y := fun y hy => by
  cases hy with
  | head => exact h
  | tail _ hy => exact r y hy

def tabD : List (Nat × TypeDesc) := [(0, Go.TypeDesc.tuple #[]), (1, Go.TypeDesc.func #[] #[] false), (2, Go.TypeDesc.int Go.IntKind.i64), (3, Go.TypeDesc.int Go.IntKind.i64), (4, Go.TypeDesc.bool), (5, Go.TypeDesc.int Go.IntKind.u8), (6, Go.TypeDesc.int Go.IntKind.u8), (7, Go.TypeDesc.struct #[{ name := "x", type := 2, offset := 0, embedded := false, tag := "", pkgPath := "runtime", byteOffset := 0 }, { name := "y", type := 3, offset := 1, embedded := false, tag := "", pkgPath := "runtime", byteOffset := 8 }, { name := "signed", type := 4, offset := 2, embedded := false, tag := "", pkgPath := "runtime", byteOffset := 16 }, { name := "code", type := 6, offset := 3, embedded := false, tag := "", pkgPath := "runtime", byteOffset := 17 }]), (8, Go.TypeDesc.struct #[{ name := "x", type := 2, offset := 0, embedded := false, tag := "", pkgPath := "runtime", byteOffset := 0 }, { name := "y", type := 3, offset := 1, embedded := false, tag := "", pkgPath := "runtime", byteOffset := 8 }, { name := "signed", type := 4, offset := 2, embedded := false, tag := "", pkgPath := "runtime", byteOffset := 16 }, { name := "code", type := 6, offset := 3, embedded := false, tag := "", pkgPath := "runtime", byteOffset := 17 }]), (9, Go.TypeDesc.string), (10, Go.TypeDesc.string), (11, Go.TypeDesc.string), (12, Go.TypeDesc.int Go.IntKind.u64), (13, Go.TypeDesc.struct #[{ name := "msg", type := 9, offset := 0, embedded := false, tag := "", pkgPath := "runtime", byteOffset := 0 }, { name := "addr", type := 12, offset := 1, embedded := false, tag := "", pkgPath := "runtime", byteOffset := 16 }]), (14, Go.TypeDesc.struct #[{ name := "msg", type := 9, offset := 0, embedded := false, tag := "", pkgPath := "runtime", byteOffset := 0 }, { name := "addr", type := 12, offset := 1, embedded := false, tag := "", pkgPath := "runtime", byteOffset := 16 }]), (15, Go.TypeDesc.pointer 100), (16, Go.TypeDesc.pointer 103), (17, Go.TypeDesc.pointer 111), (18, Go.TypeDesc.struct #[{ name := "typ", type := 17, offset := 0, embedded := false, tag := "", pkgPath := "internal/runtime/maps", byteOffset := 0 }]), (19, Go.TypeDesc.struct #[{ name := "typ", type := 17, offset := 0, embedded := false, tag := "", pkgPath := "internal/runtime/maps", byteOffset := 0 }]), (20, Go.TypeDesc.interface #[]), (21, Go.TypeDesc.int Go.IntKind.i32), (22, Go.TypeDesc.pointer 64), (23, Go.TypeDesc.func #[] #[22] false), (24, Go.TypeDesc.int Go.IntKind.u32), (25, Go.TypeDesc.int Go.IntKind.u32), (26, Go.TypeDesc.int Go.IntKind.i64), (27, Go.TypeDesc.tuple #[25, 26]), (28, Go.TypeDesc.func #[] #[25, 26] false), (29, Go.TypeDesc.pointer 72), (30, Go.TypeDesc.func #[22, 69] #[29] false), (31, Go.TypeDesc.pointer 36), (32, Go.TypeDesc.slice 49), (33, Go.TypeDesc.struct #[{ name := "Vars", type := 3, offset := 0, embedded := false, tag := "", pkgPath := "", byteOffset := 0 }, { name := "Clauses", type := 32, offset := 1, embedded := false, tag := "", pkgPath := "", byteOffset := 8 }]), (34, Go.TypeDesc.struct #[{ name := "Vars", type := 3, offset := 0, embedded := false, tag := "", pkgPath := "", byteOffset := 0 }, { name := "Clauses", type := 32, offset := 1, embedded := false, tag := "", pkgPath := "", byteOffset := 8 }]), (35, Go.TypeDesc.struct #[{ name := "Formula", type := 34, offset := 0, embedded := false, tag := "", pkgPath := "", byteOffset := 0 }, { name := "Most", type := 3, offset := 2, embedded := false, tag := "", pkgPath := "", byteOffset := 32 }]), (36, Go.TypeDesc.struct #[{ name := "Formula", type := 34, offset := 0, embedded := false, tag := "", pkgPath := "", byteOffset := 0 }, { name := "Most", type := 3, offset := 2, embedded := false, tag := "", pkgPath := "", byteOffset := 32 }]), (37, Go.TypeDesc.func #[] #[4] false), (38, Go.TypeDesc.int Go.IntKind.i32), (39, Go.TypeDesc.tuple #[38, 26]), (40, Go.TypeDesc.func #[25] #[38, 26] false), (41, Go.TypeDesc.func #[46] #[26] true), (42, Go.TypeDesc.tuple #[4, 4]), (43, Go.TypeDesc.func #[52, 25] #[4, 4] false), (44, Go.TypeDesc.slice 80), (45, Go.TypeDesc.slice 3), (46, Go.TypeDesc.slice 25), (47, Go.TypeDesc.tuple #[22, 46]), (48, Go.TypeDesc.func #[3, 44] #[22, 46] false), (49, Go.TypeDesc.slice 38), (50, Go.TypeDesc.func #[] #[3] false), (51, Go.TypeDesc.func #[3, 44, 45] #[4] false), (52, Go.TypeDesc.slice 4), (53, Go.TypeDesc.func #[3] #[52] false), (54, Go.TypeDesc.func #[3] #[3] false), (55, Go.TypeDesc.tuple #[52, 26]), (56, Go.TypeDesc.func #[52, 46] #[52, 26] true), (57, Go.TypeDesc.tuple #[25, 25, 4]), (58, Go.TypeDesc.func #[3] #[25, 25, 4] false), (59, Go.TypeDesc.tuple #[3, 3]), (60, Go.TypeDesc.func #[34, 52] #[3, 3] false), (61, Go.TypeDesc.slice 67), (62, Go.TypeDesc.map 67 25), (63, Go.TypeDesc.struct #[{ name := "parts", type := 61, offset := 0, embedded := false, tag := "", pkgPath := "lariat/gate", byteOffset := 0 }, { name := "inputs", type := 46, offset := 1, embedded := false, tag := "", pkgPath := "lariat/gate", byteOffset := 24 }, { name := "known", type := 62, offset := 2, embedded := false, tag := "", pkgPath := "lariat/gate", byteOffset := 48 }]), (64, Go.TypeDesc.struct #[{ name := "parts", type := 61, offset := 0, embedded := false, tag := "", pkgPath := "lariat/gate", byteOffset := 0 }, { name := "inputs", type := 46, offset := 1, embedded := false, tag := "", pkgPath := "lariat/gate", byteOffset := 24 }, { name := "known", type := 62, offset := 2, embedded := false, tag := "", pkgPath := "lariat/gate", byteOffset := 48 }]), (65, Go.TypeDesc.func #[67] #[25, 26] false), (66, Go.TypeDesc.array 2 25), (67, Go.TypeDesc.array 2 25), (68, Go.TypeDesc.interface #[("Add", 90), ("Var", 50)]), (69, Go.TypeDesc.interface #[("Add", 90), ("Var", 50)]), (70, Go.TypeDesc.map 3 3), (71, Go.TypeDesc.struct #[{ name := "g", type := 22, offset := 0, embedded := false, tag := "", pkgPath := "lariat/knit", byteOffset := 0 }, { name := "sink", type := 69, offset := 1, embedded := false, tag := "", pkgPath := "lariat/knit", byteOffset := 8 }, { name := "vars", type := 70, offset := 2, embedded := false, tag := "", pkgPath := "lariat/knit", byteOffset := 24 }]), (72, Go.TypeDesc.struct #[{ name := "g", type := 22, offset := 0, embedded := false, tag := "", pkgPath := "lariat/knit", byteOffset := 0 }, { name := "sink", type := 69, offset := 1, embedded := false, tag := "", pkgPath := "lariat/knit", byteOffset := 8 }, { name := "vars", type := 70, offset := 2, embedded := false, tag := "", pkgPath := "lariat/knit", byteOffset := 24 }]), (73, Go.TypeDesc.func #[46] #[25, 26] true), (74, Go.TypeDesc.func #[25] #[38] false), (75, Go.TypeDesc.tuple #[45, 26]), (76, Go.TypeDesc.func #[46] #[45, 26] true), (77, Go.TypeDesc.func #[3] #[26] false), (78, Go.TypeDesc.func #[32] #[26] true), (79, Go.TypeDesc.struct #[{ name := "Kind", type := 3, offset := 0, embedded := false, tag := "", pkgPath := "", byteOffset := 0 }, { name := "A", type := 3, offset := 1, embedded := false, tag := "", pkgPath := "", byteOffset := 8 }, { name := "B", type := 3, offset := 2, embedded := false, tag := "", pkgPath := "", byteOffset := 16 }]), (80, Go.TypeDesc.struct #[{ name := "Kind", type := 3, offset := 0, embedded := false, tag := "", pkgPath := "", byteOffset := 0 }, { name := "A", type := 3, offset := 1, embedded := false, tag := "", pkgPath := "", byteOffset := 8 }, { name := "B", type := 3, offset := 2, embedded := false, tag := "", pkgPath := "", byteOffset := 16 }]), (81, Go.TypeDesc.func #[25, 25] #[25, 26] false), (82, Go.TypeDesc.func #[46] #[4] true), (83, Go.TypeDesc.func #[25] #[4] false), (84, Go.TypeDesc.func #[34] #[4] false), (85, Go.TypeDesc.func #[38, 52] #[4] false), (86, Go.TypeDesc.func #[96] #[] false), (87, Go.TypeDesc.func #[96] #[] false), (88, Go.TypeDesc.func #[61] #[87] false), (89, Go.TypeDesc.func #[45] #[] false), (90, Go.TypeDesc.func #[49] #[26] true), (91, Go.TypeDesc.func #[25, 25, 25] #[25, 26] false), (92, Go.TypeDesc.func #[46, 83] #[4] false), (93, Go.TypeDesc.func #[38] #[4] false), (94, Go.TypeDesc.func #[38] #[3] false), (95, Go.TypeDesc.tuple #[25, 4]), (96, Go.TypeDesc.func #[3, 67] #[4] false), (97, Go.TypeDesc.func #[46, 83] #[3] false), (98, Go.TypeDesc.func #[] #[9] false), (99, Go.TypeDesc.struct #[{ name := "_interface", type := 17, offset := 0, embedded := false, tag := "", pkgPath := "runtime", byteOffset := 0 }, { name := "concrete", type := 17, offset := 1, embedded := false, tag := "", pkgPath := "runtime", byteOffset := 8 }, { name := "asserted", type := 17, offset := 2, embedded := false, tag := "", pkgPath := "runtime", byteOffset := 16 }, { name := "missingMethod", type := 9, offset := 3, embedded := false, tag := "", pkgPath := "runtime", byteOffset := 24 }]), (100, Go.TypeDesc.struct #[{ name := "_interface", type := 17, offset := 0, embedded := false, tag := "", pkgPath := "runtime", byteOffset := 0 }, { name := "concrete", type := 17, offset := 1, embedded := false, tag := "", pkgPath := "runtime", byteOffset := 8 }, { name := "asserted", type := 17, offset := 2, embedded := false, tag := "", pkgPath := "runtime", byteOffset := 16 }, { name := "missingMethod", type := 9, offset := 3, embedded := false, tag := "", pkgPath := "runtime", byteOffset := 24 }]), (101, Go.TypeDesc.array 0 16), (102, Go.TypeDesc.struct #[{ name := "_", type := 101, offset := 0, embedded := false, tag := "", pkgPath := "runtime", byteOffset := 0 }]), (103, Go.TypeDesc.struct #[{ name := "_", type := 101, offset := 0, embedded := false, tag := "", pkgPath := "runtime", byteOffset := 0 }]), (104, Go.TypeDesc.int Go.IntKind.u8), (105, Go.TypeDesc.int Go.IntKind.u8), (106, Go.TypeDesc.func #[112, 112] #[4] false), (107, Go.TypeDesc.pointer 5), (108, Go.TypeDesc.int Go.IntKind.i32), (109, Go.TypeDesc.int Go.IntKind.i32), (110, Go.TypeDesc.struct #[{ name := "Size_", type := 12, offset := 0, embedded := false, tag := "", pkgPath := "", byteOffset := 0 }, { name := "PtrBytes", type := 12, offset := 1, embedded := false, tag := "", pkgPath := "", byteOffset := 8 }, { name := "Hash", type := 24, offset := 2, embedded := false, tag := "", pkgPath := "", byteOffset := 16 }, { name := "TFlag", type := 104, offset := 3, embedded := false, tag := "", pkgPath := "", byteOffset := 20 }, { name := "Align_", type := 5, offset := 4, embedded := false, tag := "", pkgPath := "", byteOffset := 21 }, { name := "FieldAlign_", type := 5, offset := 5, embedded := false, tag := "", pkgPath := "", byteOffset := 22 }, { name := "Kind_", type := 105, offset := 6, embedded := false, tag := "", pkgPath := "", byteOffset := 23 }, { name := "Equal", type := 106, offset := 7, embedded := false, tag := "", pkgPath := "", byteOffset := 24 }, { name := "GCData", type := 107, offset := 8, embedded := false, tag := "", pkgPath := "", byteOffset := 32 }, { name := "Str", type := 108, offset := 9, embedded := false, tag := "", pkgPath := "", byteOffset := 40 }, { name := "PtrToThis", type := 109, offset := 10, embedded := false, tag := "", pkgPath := "", byteOffset := 44 }]), (111, Go.TypeDesc.struct #[{ name := "Size_", type := 12, offset := 0, embedded := false, tag := "", pkgPath := "", byteOffset := 0 }, { name := "PtrBytes", type := 12, offset := 1, embedded := false, tag := "", pkgPath := "", byteOffset := 8 }, { name := "Hash", type := 24, offset := 2, embedded := false, tag := "", pkgPath := "", byteOffset := 16 }, { name := "TFlag", type := 104, offset := 3, embedded := false, tag := "", pkgPath := "", byteOffset := 20 }, { name := "Align_", type := 5, offset := 4, embedded := false, tag := "", pkgPath := "", byteOffset := 21 }, { name := "FieldAlign_", type := 5, offset := 5, embedded := false, tag := "", pkgPath := "", byteOffset := 22 }, { name := "Kind_", type := 105, offset := 6, embedded := false, tag := "", pkgPath := "", byteOffset := 23 }, { name := "Equal", type := 106, offset := 7, embedded := false, tag := "", pkgPath := "", byteOffset := 24 }, { name := "GCData", type := 107, offset := 8, embedded := false, tag := "", pkgPath := "", byteOffset := 32 }, { name := "Str", type := 108, offset := 9, embedded := false, tag := "", pkgPath := "", byteOffset := 40 }, { name := "PtrToThis", type := 109, offset := 10, embedded := false, tag := "", pkgPath := "", byteOffset := 44 }]), (112, Go.TypeDesc.unsafePointer)]
def tabS : List (Nat × Nat) := [(0, 1), (1, 1), (2, 1), (3, 1), (4, 1), (5, 1), (6, 1), (7, 4), (8, 4), (9, 1), (10, 1), (11, 1), (12, 1), (13, 2), (14, 2), (15, 1), (16, 1), (17, 1), (18, 1), (19, 1), (20, 1), (21, 1), (22, 1), (23, 1), (24, 1), (25, 1), (26, 1), (27, 1), (28, 1), (29, 1), (30, 1), (31, 1), (32, 1), (33, 2), (34, 2), (35, 3), (36, 3), (37, 1), (38, 1), (39, 1), (40, 1), (41, 1), (42, 1), (43, 1), (44, 1), (45, 1), (46, 1), (47, 1), (48, 1), (49, 1), (50, 1), (51, 1), (52, 1), (53, 1), (54, 1), (55, 1), (56, 1), (57, 1), (58, 1), (59, 1), (60, 1), (61, 1), (62, 1), (63, 3), (64, 3), (65, 1), (66, 2), (67, 2), (68, 1), (69, 1), (70, 1), (71, 3), (72, 3), (73, 1), (74, 1), (75, 1), (76, 1), (77, 1), (78, 1), (79, 3), (80, 3), (81, 1), (82, 1), (83, 1), (84, 1), (85, 1), (86, 1), (87, 1), (88, 1), (89, 1), (90, 1), (91, 1), (92, 1), (93, 1), (94, 1), (95, 1), (96, 1), (97, 1), (98, 1), (99, 4), (100, 4), (101, 0), (102, 0), (103, 0), (104, 1), (105, 1), (106, 1), (107, 1), (108, 1), (109, 1), (110, 11), (111, 11), (112, 1)]
def tabB : List (Nat × Nat) := [(0, 0), (1, 8), (2, 8), (3, 8), (4, 1), (5, 1), (6, 1), (7, 24), (8, 24), (9, 16), (10, 16), (11, 16), (12, 8), (13, 24), (14, 24), (15, 8), (16, 8), (17, 8), (18, 8), (19, 8), (20, 16), (21, 4), (22, 8), (23, 8), (24, 4), (25, 4), (26, 8), (27, 0), (28, 8), (29, 8), (30, 8), (31, 8), (32, 24), (33, 32), (34, 32), (35, 40), (36, 40), (37, 8), (38, 4), (39, 0), (40, 8), (41, 8), (42, 0), (43, 8), (44, 24), (45, 24), (46, 24), (47, 0), (48, 8), (49, 24), (50, 8), (51, 8), (52, 24), (53, 8), (54, 8), (55, 0), (56, 8), (57, 0), (58, 8), (59, 0), (60, 8), (61, 24), (62, 8), (63, 56), (64, 56), (65, 8), (66, 8), (67, 8), (68, 16), (69, 16), (70, 8), (71, 32), (72, 32), (73, 8), (74, 8), (75, 0), (76, 8), (77, 8), (78, 8), (79, 24), (80, 24), (81, 8), (82, 8), (83, 8), (84, 8), (85, 8), (86, 8), (87, 8), (88, 8), (89, 8), (90, 8), (91, 8), (92, 8), (93, 8), (94, 8), (95, 0), (96, 8), (97, 8), (98, 8), (99, 40), (100, 40), (101, 0), (102, 0), (103, 0), (104, 1), (105, 1), (106, 8), (107, 8), (108, 4), (109, 4), (110, 48), (111, 48), (112, 8)]
def tabZ : List (Nat × Value) := [(0, (Go.Value.tuple #[])), (1, Go.Value.nilFunc), (2, (Go.Value.int Go.IntKind.i64 0)), (3, (Go.Value.int Go.IntKind.i64 0)), (4, (Go.Value.bool false)), (5, (Go.Value.int Go.IntKind.u8 0)), (6, (Go.Value.int Go.IntKind.u8 0)), (7, (Go.Value.agg #[Go.Value.int Go.IntKind.i64 0, Go.Value.int Go.IntKind.i64 0, Go.Value.bool false, Go.Value.int Go.IntKind.u8 0])), (8, (Go.Value.agg #[Go.Value.int Go.IntKind.i64 0, Go.Value.int Go.IntKind.i64 0, Go.Value.bool false, Go.Value.int Go.IntKind.u8 0])), (9, (Go.Value.string { data := #[] })), (10, (Go.Value.string { data := #[] })), (11, (Go.Value.string { data := #[] })), (12, (Go.Value.int Go.IntKind.u64 0)), (13, (Go.Value.agg #[Go.Value.string { data := #[] }, Go.Value.int Go.IntKind.u64 0])), (14, (Go.Value.agg #[Go.Value.string { data := #[] }, Go.Value.int Go.IntKind.u64 0])), (15, (Go.Value.pointer none)), (16, (Go.Value.pointer none)), (17, (Go.Value.pointer none)), (18, (Go.Value.agg #[Go.Value.pointer none])), (19, (Go.Value.agg #[Go.Value.pointer none])), (20, Go.Value.nilIface), (21, (Go.Value.int Go.IntKind.i32 0)), (22, (Go.Value.pointer none)), (23, Go.Value.nilFunc), (24, (Go.Value.int Go.IntKind.u32 0)), (25, (Go.Value.int Go.IntKind.u32 0)), (26, (Go.Value.int Go.IntKind.i64 0)), (27, (Go.Value.tuple #[Go.Value.int Go.IntKind.u32 0, Go.Value.int Go.IntKind.i64 0])), (28, Go.Value.nilFunc), (29, (Go.Value.pointer none)), (30, Go.Value.nilFunc), (31, (Go.Value.pointer none)), (32, (Go.Value.slice none 0 0)), (33, (Go.Value.agg #[Go.Value.int Go.IntKind.i64 0, Go.Value.slice none 0 0])), (34, (Go.Value.agg #[Go.Value.int Go.IntKind.i64 0, Go.Value.slice none 0 0])), (35, (Go.Value.agg #[Go.Value.int Go.IntKind.i64 0, Go.Value.slice none 0 0, Go.Value.int Go.IntKind.i64 0])), (36, (Go.Value.agg #[Go.Value.int Go.IntKind.i64 0, Go.Value.slice none 0 0, Go.Value.int Go.IntKind.i64 0])), (37, Go.Value.nilFunc), (38, (Go.Value.int Go.IntKind.i32 0)), (39, (Go.Value.tuple #[Go.Value.int Go.IntKind.i32 0, Go.Value.int Go.IntKind.i64 0])), (40, Go.Value.nilFunc), (41, Go.Value.nilFunc), (42, (Go.Value.tuple #[Go.Value.bool false, Go.Value.bool false])), (43, Go.Value.nilFunc), (44, (Go.Value.slice none 0 0)), (45, (Go.Value.slice none 0 0)), (46, (Go.Value.slice none 0 0)), (47, (Go.Value.tuple #[Go.Value.pointer none, Go.Value.slice none 0 0])), (48, Go.Value.nilFunc), (49, (Go.Value.slice none 0 0)), (50, Go.Value.nilFunc), (51, Go.Value.nilFunc), (52, (Go.Value.slice none 0 0)), (53, Go.Value.nilFunc), (54, Go.Value.nilFunc), (55, (Go.Value.tuple #[Go.Value.slice none 0 0, Go.Value.int Go.IntKind.i64 0])), (56, Go.Value.nilFunc), (57, (Go.Value.tuple #[Go.Value.int Go.IntKind.u32 0, Go.Value.int Go.IntKind.u32 0, Go.Value.bool false])), (58, Go.Value.nilFunc), (59, (Go.Value.tuple #[Go.Value.int Go.IntKind.i64 0, Go.Value.int Go.IntKind.i64 0])), (60, Go.Value.nilFunc), (61, (Go.Value.slice none 0 0)), (62, (Go.Value.map none)), (63, (Go.Value.agg #[Go.Value.slice none 0 0, Go.Value.slice none 0 0, Go.Value.map none])), (64, (Go.Value.agg #[Go.Value.slice none 0 0, Go.Value.slice none 0 0, Go.Value.map none])), (65, Go.Value.nilFunc), (66, (Go.Value.agg #[Go.Value.int Go.IntKind.u32 0, Go.Value.int Go.IntKind.u32 0])), (67, (Go.Value.agg #[Go.Value.int Go.IntKind.u32 0, Go.Value.int Go.IntKind.u32 0])), (68, Go.Value.nilIface), (69, Go.Value.nilIface), (70, (Go.Value.map none)), (71, (Go.Value.agg #[Go.Value.pointer none, Go.Value.nilIface, Go.Value.map none])), (72, (Go.Value.agg #[Go.Value.pointer none, Go.Value.nilIface, Go.Value.map none])), (73, Go.Value.nilFunc), (74, Go.Value.nilFunc), (75, (Go.Value.tuple #[Go.Value.slice none 0 0, Go.Value.int Go.IntKind.i64 0])), (76, Go.Value.nilFunc), (77, Go.Value.nilFunc), (78, Go.Value.nilFunc), (79, (Go.Value.agg #[Go.Value.int Go.IntKind.i64 0, Go.Value.int Go.IntKind.i64 0, Go.Value.int Go.IntKind.i64 0])), (80, (Go.Value.agg #[Go.Value.int Go.IntKind.i64 0, Go.Value.int Go.IntKind.i64 0, Go.Value.int Go.IntKind.i64 0])), (81, Go.Value.nilFunc), (82, Go.Value.nilFunc), (83, Go.Value.nilFunc), (84, Go.Value.nilFunc), (85, Go.Value.nilFunc), (86, Go.Value.nilFunc), (87, Go.Value.nilFunc), (88, Go.Value.nilFunc), (89, Go.Value.nilFunc), (90, Go.Value.nilFunc), (91, Go.Value.nilFunc), (92, Go.Value.nilFunc), (93, Go.Value.nilFunc), (94, Go.Value.nilFunc), (95, (Go.Value.tuple #[Go.Value.int Go.IntKind.u32 0, Go.Value.bool false])), (96, Go.Value.nilFunc), (97, Go.Value.nilFunc), (98, Go.Value.nilFunc), (99, (Go.Value.agg #[Go.Value.pointer none, Go.Value.pointer none, Go.Value.pointer none, Go.Value.string { data := #[] }])), (100, (Go.Value.agg #[Go.Value.pointer none, Go.Value.pointer none, Go.Value.pointer none, Go.Value.string { data := #[] }])), (101, (Go.Value.agg #[])), (102, (Go.Value.agg #[])), (103, (Go.Value.agg #[])), (104, (Go.Value.int Go.IntKind.u8 0)), (105, (Go.Value.int Go.IntKind.u8 0)), (106, Go.Value.nilFunc), (107, (Go.Value.pointer none)), (108, (Go.Value.int Go.IntKind.i32 0)), (109, (Go.Value.int Go.IntKind.i32 0)), (110, (Go.Value.agg #[Go.Value.int Go.IntKind.u64 0, Go.Value.int Go.IntKind.u64 0, Go.Value.int Go.IntKind.u32 0, Go.Value.int Go.IntKind.u8 0, Go.Value.int Go.IntKind.u8 0, Go.Value.int Go.IntKind.u8 0, Go.Value.int Go.IntKind.u8 0, Go.Value.nilFunc, Go.Value.pointer none, Go.Value.int Go.IntKind.i32 0, Go.Value.int Go.IntKind.i32 0])), (111, (Go.Value.agg #[Go.Value.int Go.IntKind.u64 0, Go.Value.int Go.IntKind.u64 0, Go.Value.int Go.IntKind.u32 0, Go.Value.int Go.IntKind.u8 0, Go.Value.int Go.IntKind.u8 0, Go.Value.int Go.IntKind.u8 0, Go.Value.int Go.IntKind.u8 0, Go.Value.nilFunc, Go.Value.pointer none, Go.Value.int Go.IntKind.i32 0, Go.Value.int Go.IntKind.i32 0])), (112, (Go.Value.pointer none))]
def tab : Tab := ⟨tabD, tabS, tabB, tabZ⟩

theorem tabD_ok : ∀ x ∈ tabD, Try.prog.underlying x.1 = some x.2 := by
  refine all_cons (Try.underlying0) ?_
  refine all_cons (Try.underlying1) ?_
  refine all_cons (Try.underlying2) ?_
  refine all_cons (Try.underlying3) ?_
  refine all_cons (Try.underlying4) ?_
  refine all_cons (Try.underlying5) ?_
  refine all_cons (Try.underlying6) ?_
  refine all_cons (Try.underlying7) ?_
  refine all_cons (Try.underlying8) ?_
  refine all_cons (Try.underlying9) ?_
  refine all_cons (Try.underlying10) ?_
  refine all_cons (Try.underlying11) ?_
  refine all_cons (Try.underlying12) ?_
  refine all_cons (Try.underlying13) ?_
  refine all_cons (Try.underlying14) ?_
  refine all_cons (Try.underlying15) ?_
  refine all_cons (Try.underlying16) ?_
  refine all_cons (Try.underlying17) ?_
  refine all_cons (Try.underlying18) ?_
  refine all_cons (Try.underlying19) ?_
  refine all_cons (Try.underlying20) ?_
  refine all_cons (Try.underlying21) ?_
  refine all_cons (Try.underlying22) ?_
  refine all_cons (Try.underlying23) ?_
  refine all_cons (Try.underlying24) ?_
  refine all_cons (Try.underlying25) ?_
  refine all_cons (Try.underlying26) ?_
  refine all_cons (Try.underlying27) ?_
  refine all_cons (Try.underlying28) ?_
  refine all_cons (Try.underlying29) ?_
  refine all_cons (Try.underlying30) ?_
  refine all_cons (Try.underlying31) ?_
  refine all_cons (Try.underlying32) ?_
  refine all_cons (Try.underlying33) ?_
  refine all_cons (Try.underlying34) ?_
  refine all_cons (Try.underlying35) ?_
  refine all_cons (Try.underlying36) ?_
  refine all_cons (Try.underlying37) ?_
  refine all_cons (Try.underlying38) ?_
  refine all_cons (Try.underlying39) ?_
  refine all_cons (Try.underlying40) ?_
  refine all_cons (Try.underlying41) ?_
  refine all_cons (Try.underlying42) ?_
  refine all_cons (Try.underlying43) ?_
  refine all_cons (Try.underlying44) ?_
  refine all_cons (Try.underlying45) ?_
  refine all_cons (Try.underlying46) ?_
  refine all_cons (Try.underlying47) ?_
  refine all_cons (Try.underlying48) ?_
  refine all_cons (Try.underlying49) ?_
  refine all_cons (Try.underlying50) ?_
  refine all_cons (Try.underlying51) ?_
  refine all_cons (Try.underlying52) ?_
  refine all_cons (Try.underlying53) ?_
  refine all_cons (Try.underlying54) ?_
  refine all_cons (Try.underlying55) ?_
  refine all_cons (Try.underlying56) ?_
  refine all_cons (Try.underlying57) ?_
  refine all_cons (Try.underlying58) ?_
  refine all_cons (Try.underlying59) ?_
  refine all_cons (Try.underlying60) ?_
  refine all_cons (Try.underlying61) ?_
  refine all_cons (Try.underlying62) ?_
  refine all_cons (Try.underlying63) ?_
  refine all_cons (Try.underlying64) ?_
  refine all_cons (Try.underlying65) ?_
  refine all_cons (Try.underlying66) ?_
  refine all_cons (Try.underlying67) ?_
  refine all_cons (Try.underlying68) ?_
  refine all_cons (Try.underlying69) ?_
  refine all_cons (Try.underlying70) ?_
  refine all_cons (Try.underlying71) ?_
  refine all_cons (Try.underlying72) ?_
  refine all_cons (Try.underlying73) ?_
  refine all_cons (Try.underlying74) ?_
  refine all_cons (Try.underlying75) ?_
  refine all_cons (Try.underlying76) ?_
  refine all_cons (Try.underlying77) ?_
  refine all_cons (Try.underlying78) ?_
  refine all_cons (Try.underlying79) ?_
  refine all_cons (Try.underlying80) ?_
  refine all_cons (Try.underlying81) ?_
  refine all_cons (Try.underlying82) ?_
  refine all_cons (Try.underlying83) ?_
  refine all_cons (Try.underlying84) ?_
  refine all_cons (Try.underlying85) ?_
  refine all_cons (Try.underlying86) ?_
  refine all_cons (Try.underlying87) ?_
  refine all_cons (Try.underlying88) ?_
  refine all_cons (Try.underlying89) ?_
  refine all_cons (Try.underlying90) ?_
  refine all_cons (Try.underlying91) ?_
  refine all_cons (Try.underlying92) ?_
  refine all_cons (Try.underlying93) ?_
  refine all_cons (Try.underlying94) ?_
  refine all_cons (Try.underlying95) ?_
  refine all_cons (Try.underlying96) ?_
  refine all_cons (Try.underlying97) ?_
  refine all_cons (Try.underlying98) ?_
  refine all_cons (Try.underlying99) ?_
  refine all_cons (Try.underlying100) ?_
  refine all_cons (Try.underlying101) ?_
  refine all_cons (Try.underlying102) ?_
  refine all_cons (Try.underlying103) ?_
  refine all_cons (Try.underlying104) ?_
  refine all_cons (Try.underlying105) ?_
  refine all_cons (Try.underlying106) ?_
  refine all_cons (Try.underlying107) ?_
  refine all_cons (Try.underlying108) ?_
  refine all_cons (Try.underlying109) ?_
  refine all_cons (Try.underlying110) ?_
  refine all_cons (Try.underlying111) ?_
  refine all_cons (Try.underlying112) ?_
  exact fun _ h => nomatch h

theorem tabS_ok : ∀ x ∈ tabS, ∀ w, (sizeOf x.1).run Try.prog w = .ok x.2 w := by
  refine all_cons (Try.sizeOf0) ?_
  refine all_cons (Try.sizeOf1) ?_
  refine all_cons (Try.sizeOf2) ?_
  refine all_cons (Try.sizeOf3) ?_
  refine all_cons (Try.sizeOf4) ?_
  refine all_cons (Try.sizeOf5) ?_
  refine all_cons (Try.sizeOf6) ?_
  refine all_cons (Try.sizeOf7) ?_
  refine all_cons (Try.sizeOf8) ?_
  refine all_cons (Try.sizeOf9) ?_
  refine all_cons (Try.sizeOf10) ?_
  refine all_cons (Try.sizeOf11) ?_
  refine all_cons (Try.sizeOf12) ?_
  refine all_cons (Try.sizeOf13) ?_
  refine all_cons (Try.sizeOf14) ?_
  refine all_cons (Try.sizeOf15) ?_
  refine all_cons (Try.sizeOf16) ?_
  refine all_cons (Try.sizeOf17) ?_
  refine all_cons (Try.sizeOf18) ?_
  refine all_cons (Try.sizeOf19) ?_
  refine all_cons (Try.sizeOf20) ?_
  refine all_cons (Try.sizeOf21) ?_
  refine all_cons (Try.sizeOf22) ?_
  refine all_cons (Try.sizeOf23) ?_
  refine all_cons (Try.sizeOf24) ?_
  refine all_cons (Try.sizeOf25) ?_
  refine all_cons (Try.sizeOf26) ?_
  refine all_cons (Try.sizeOf27) ?_
  refine all_cons (Try.sizeOf28) ?_
  refine all_cons (Try.sizeOf29) ?_
  refine all_cons (Try.sizeOf30) ?_
  refine all_cons (Try.sizeOf31) ?_
  refine all_cons (Try.sizeOf32) ?_
  refine all_cons (Try.sizeOf33) ?_
  refine all_cons (Try.sizeOf34) ?_
  refine all_cons (Try.sizeOf35) ?_
  refine all_cons (Try.sizeOf36) ?_
  refine all_cons (Try.sizeOf37) ?_
  refine all_cons (Try.sizeOf38) ?_
  refine all_cons (Try.sizeOf39) ?_
  refine all_cons (Try.sizeOf40) ?_
  refine all_cons (Try.sizeOf41) ?_
  refine all_cons (Try.sizeOf42) ?_
  refine all_cons (Try.sizeOf43) ?_
  refine all_cons (Try.sizeOf44) ?_
  refine all_cons (Try.sizeOf45) ?_
  refine all_cons (Try.sizeOf46) ?_
  refine all_cons (Try.sizeOf47) ?_
  refine all_cons (Try.sizeOf48) ?_
  refine all_cons (Try.sizeOf49) ?_
  refine all_cons (Try.sizeOf50) ?_
  refine all_cons (Try.sizeOf51) ?_
  refine all_cons (Try.sizeOf52) ?_
  refine all_cons (Try.sizeOf53) ?_
  refine all_cons (Try.sizeOf54) ?_
  refine all_cons (Try.sizeOf55) ?_
  refine all_cons (Try.sizeOf56) ?_
  refine all_cons (Try.sizeOf57) ?_
  refine all_cons (Try.sizeOf58) ?_
  refine all_cons (Try.sizeOf59) ?_
  refine all_cons (Try.sizeOf60) ?_
  refine all_cons (Try.sizeOf61) ?_
  refine all_cons (Try.sizeOf62) ?_
  refine all_cons (Try.sizeOf63) ?_
  refine all_cons (Try.sizeOf64) ?_
  refine all_cons (Try.sizeOf65) ?_
  refine all_cons (Try.sizeOf66) ?_
  refine all_cons (Try.sizeOf67) ?_
  refine all_cons (Try.sizeOf68) ?_
  refine all_cons (Try.sizeOf69) ?_
  refine all_cons (Try.sizeOf70) ?_
  refine all_cons (Try.sizeOf71) ?_
  refine all_cons (Try.sizeOf72) ?_
  refine all_cons (Try.sizeOf73) ?_
  refine all_cons (Try.sizeOf74) ?_
  refine all_cons (Try.sizeOf75) ?_
  refine all_cons (Try.sizeOf76) ?_
  refine all_cons (Try.sizeOf77) ?_
  refine all_cons (Try.sizeOf78) ?_
  refine all_cons (Try.sizeOf79) ?_
  refine all_cons (Try.sizeOf80) ?_
  refine all_cons (Try.sizeOf81) ?_
  refine all_cons (Try.sizeOf82) ?_
  refine all_cons (Try.sizeOf83) ?_
  refine all_cons (Try.sizeOf84) ?_
  refine all_cons (Try.sizeOf85) ?_
  refine all_cons (Try.sizeOf86) ?_
  refine all_cons (Try.sizeOf87) ?_
  refine all_cons (Try.sizeOf88) ?_
  refine all_cons (Try.sizeOf89) ?_
  refine all_cons (Try.sizeOf90) ?_
  refine all_cons (Try.sizeOf91) ?_
  refine all_cons (Try.sizeOf92) ?_
  refine all_cons (Try.sizeOf93) ?_
  refine all_cons (Try.sizeOf94) ?_
  refine all_cons (Try.sizeOf95) ?_
  refine all_cons (Try.sizeOf96) ?_
  refine all_cons (Try.sizeOf97) ?_
  refine all_cons (Try.sizeOf98) ?_
  refine all_cons (Try.sizeOf99) ?_
  refine all_cons (Try.sizeOf100) ?_
  refine all_cons (Try.sizeOf101) ?_
  refine all_cons (Try.sizeOf102) ?_
  refine all_cons (Try.sizeOf103) ?_
  refine all_cons (Try.sizeOf104) ?_
  refine all_cons (Try.sizeOf105) ?_
  refine all_cons (Try.sizeOf106) ?_
  refine all_cons (Try.sizeOf107) ?_
  refine all_cons (Try.sizeOf108) ?_
  refine all_cons (Try.sizeOf109) ?_
  refine all_cons (Try.sizeOf110) ?_
  refine all_cons (Try.sizeOf111) ?_
  refine all_cons (Try.sizeOf112) ?_
  exact fun _ h => nomatch h

theorem tabB_ok : ∀ x ∈ tabB, ∀ w, ∃ i, (typeInfo x.1).run Try.prog w = .ok i w ∧ i.bytes = x.2 := by
  refine all_cons (fun w => ⟨_, Try.typeInfo0 w, rfl⟩) ?_
  refine all_cons (fun w => ⟨_, Try.typeInfo1 w, rfl⟩) ?_
  refine all_cons (fun w => ⟨_, Try.typeInfo2 w, rfl⟩) ?_
  refine all_cons (fun w => ⟨_, Try.typeInfo3 w, rfl⟩) ?_
  refine all_cons (fun w => ⟨_, Try.typeInfo4 w, rfl⟩) ?_
  refine all_cons (fun w => ⟨_, Try.typeInfo5 w, rfl⟩) ?_
  refine all_cons (fun w => ⟨_, Try.typeInfo6 w, rfl⟩) ?_
  refine all_cons (fun w => ⟨_, Try.typeInfo7 w, rfl⟩) ?_
  refine all_cons (fun w => ⟨_, Try.typeInfo8 w, rfl⟩) ?_
  refine all_cons (fun w => ⟨_, Try.typeInfo9 w, rfl⟩) ?_
  refine all_cons (fun w => ⟨_, Try.typeInfo10 w, rfl⟩) ?_
  refine all_cons (fun w => ⟨_, Try.typeInfo11 w, rfl⟩) ?_
  refine all_cons (fun w => ⟨_, Try.typeInfo12 w, rfl⟩) ?_
  refine all_cons (fun w => ⟨_, Try.typeInfo13 w, rfl⟩) ?_
  refine all_cons (fun w => ⟨_, Try.typeInfo14 w, rfl⟩) ?_
  refine all_cons (fun w => ⟨_, Try.typeInfo15 w, rfl⟩) ?_
  refine all_cons (fun w => ⟨_, Try.typeInfo16 w, rfl⟩) ?_
  refine all_cons (fun w => ⟨_, Try.typeInfo17 w, rfl⟩) ?_
  refine all_cons (fun w => ⟨_, Try.typeInfo18 w, rfl⟩) ?_
  refine all_cons (fun w => ⟨_, Try.typeInfo19 w, rfl⟩) ?_
  refine all_cons (fun w => ⟨_, Try.typeInfo20 w, rfl⟩) ?_
  refine all_cons (fun w => ⟨_, Try.typeInfo21 w, rfl⟩) ?_
  refine all_cons (fun w => ⟨_, Try.typeInfo22 w, rfl⟩) ?_
  refine all_cons (fun w => ⟨_, Try.typeInfo23 w, rfl⟩) ?_
  refine all_cons (fun w => ⟨_, Try.typeInfo24 w, rfl⟩) ?_
  refine all_cons (fun w => ⟨_, Try.typeInfo25 w, rfl⟩) ?_
  refine all_cons (fun w => ⟨_, Try.typeInfo26 w, rfl⟩) ?_
  refine all_cons (fun w => ⟨_, Try.typeInfo27 w, rfl⟩) ?_
  refine all_cons (fun w => ⟨_, Try.typeInfo28 w, rfl⟩) ?_
  refine all_cons (fun w => ⟨_, Try.typeInfo29 w, rfl⟩) ?_
  refine all_cons (fun w => ⟨_, Try.typeInfo30 w, rfl⟩) ?_
  refine all_cons (fun w => ⟨_, Try.typeInfo31 w, rfl⟩) ?_
  refine all_cons (fun w => ⟨_, Try.typeInfo32 w, rfl⟩) ?_
  refine all_cons (fun w => ⟨_, Try.typeInfo33 w, rfl⟩) ?_
  refine all_cons (fun w => ⟨_, Try.typeInfo34 w, rfl⟩) ?_
  refine all_cons (fun w => ⟨_, Try.typeInfo35 w, rfl⟩) ?_
  refine all_cons (fun w => ⟨_, Try.typeInfo36 w, rfl⟩) ?_
  refine all_cons (fun w => ⟨_, Try.typeInfo37 w, rfl⟩) ?_
  refine all_cons (fun w => ⟨_, Try.typeInfo38 w, rfl⟩) ?_
  refine all_cons (fun w => ⟨_, Try.typeInfo39 w, rfl⟩) ?_
  refine all_cons (fun w => ⟨_, Try.typeInfo40 w, rfl⟩) ?_
  refine all_cons (fun w => ⟨_, Try.typeInfo41 w, rfl⟩) ?_
  refine all_cons (fun w => ⟨_, Try.typeInfo42 w, rfl⟩) ?_
  refine all_cons (fun w => ⟨_, Try.typeInfo43 w, rfl⟩) ?_
  refine all_cons (fun w => ⟨_, Try.typeInfo44 w, rfl⟩) ?_
  refine all_cons (fun w => ⟨_, Try.typeInfo45 w, rfl⟩) ?_
  refine all_cons (fun w => ⟨_, Try.typeInfo46 w, rfl⟩) ?_
  refine all_cons (fun w => ⟨_, Try.typeInfo47 w, rfl⟩) ?_
  refine all_cons (fun w => ⟨_, Try.typeInfo48 w, rfl⟩) ?_
  refine all_cons (fun w => ⟨_, Try.typeInfo49 w, rfl⟩) ?_
  refine all_cons (fun w => ⟨_, Try.typeInfo50 w, rfl⟩) ?_
  refine all_cons (fun w => ⟨_, Try.typeInfo51 w, rfl⟩) ?_
  refine all_cons (fun w => ⟨_, Try.typeInfo52 w, rfl⟩) ?_
  refine all_cons (fun w => ⟨_, Try.typeInfo53 w, rfl⟩) ?_
  refine all_cons (fun w => ⟨_, Try.typeInfo54 w, rfl⟩) ?_
  refine all_cons (fun w => ⟨_, Try.typeInfo55 w, rfl⟩) ?_
  refine all_cons (fun w => ⟨_, Try.typeInfo56 w, rfl⟩) ?_
  refine all_cons (fun w => ⟨_, Try.typeInfo57 w, rfl⟩) ?_
  refine all_cons (fun w => ⟨_, Try.typeInfo58 w, rfl⟩) ?_
  refine all_cons (fun w => ⟨_, Try.typeInfo59 w, rfl⟩) ?_
  refine all_cons (fun w => ⟨_, Try.typeInfo60 w, rfl⟩) ?_
  refine all_cons (fun w => ⟨_, Try.typeInfo61 w, rfl⟩) ?_
  refine all_cons (fun w => ⟨_, Try.typeInfo62 w, rfl⟩) ?_
  refine all_cons (fun w => ⟨_, Try.typeInfo63 w, rfl⟩) ?_
  refine all_cons (fun w => ⟨_, Try.typeInfo64 w, rfl⟩) ?_
  refine all_cons (fun w => ⟨_, Try.typeInfo65 w, rfl⟩) ?_
  refine all_cons (fun w => ⟨_, Try.typeInfo66 w, rfl⟩) ?_
  refine all_cons (fun w => ⟨_, Try.typeInfo67 w, rfl⟩) ?_
  refine all_cons (fun w => ⟨_, Try.typeInfo68 w, rfl⟩) ?_
  refine all_cons (fun w => ⟨_, Try.typeInfo69 w, rfl⟩) ?_
  refine all_cons (fun w => ⟨_, Try.typeInfo70 w, rfl⟩) ?_
  refine all_cons (fun w => ⟨_, Try.typeInfo71 w, rfl⟩) ?_
  refine all_cons (fun w => ⟨_, Try.typeInfo72 w, rfl⟩) ?_
  refine all_cons (fun w => ⟨_, Try.typeInfo73 w, rfl⟩) ?_
  refine all_cons (fun w => ⟨_, Try.typeInfo74 w, rfl⟩) ?_
  refine all_cons (fun w => ⟨_, Try.typeInfo75 w, rfl⟩) ?_
  refine all_cons (fun w => ⟨_, Try.typeInfo76 w, rfl⟩) ?_
  refine all_cons (fun w => ⟨_, Try.typeInfo77 w, rfl⟩) ?_
  refine all_cons (fun w => ⟨_, Try.typeInfo78 w, rfl⟩) ?_
  refine all_cons (fun w => ⟨_, Try.typeInfo79 w, rfl⟩) ?_
  refine all_cons (fun w => ⟨_, Try.typeInfo80 w, rfl⟩) ?_
  refine all_cons (fun w => ⟨_, Try.typeInfo81 w, rfl⟩) ?_
  refine all_cons (fun w => ⟨_, Try.typeInfo82 w, rfl⟩) ?_
  refine all_cons (fun w => ⟨_, Try.typeInfo83 w, rfl⟩) ?_
  refine all_cons (fun w => ⟨_, Try.typeInfo84 w, rfl⟩) ?_
  refine all_cons (fun w => ⟨_, Try.typeInfo85 w, rfl⟩) ?_
  refine all_cons (fun w => ⟨_, Try.typeInfo86 w, rfl⟩) ?_
  refine all_cons (fun w => ⟨_, Try.typeInfo87 w, rfl⟩) ?_
  refine all_cons (fun w => ⟨_, Try.typeInfo88 w, rfl⟩) ?_
  refine all_cons (fun w => ⟨_, Try.typeInfo89 w, rfl⟩) ?_
  refine all_cons (fun w => ⟨_, Try.typeInfo90 w, rfl⟩) ?_
  refine all_cons (fun w => ⟨_, Try.typeInfo91 w, rfl⟩) ?_
  refine all_cons (fun w => ⟨_, Try.typeInfo92 w, rfl⟩) ?_
  refine all_cons (fun w => ⟨_, Try.typeInfo93 w, rfl⟩) ?_
  refine all_cons (fun w => ⟨_, Try.typeInfo94 w, rfl⟩) ?_
  refine all_cons (fun w => ⟨_, Try.typeInfo95 w, rfl⟩) ?_
  refine all_cons (fun w => ⟨_, Try.typeInfo96 w, rfl⟩) ?_
  refine all_cons (fun w => ⟨_, Try.typeInfo97 w, rfl⟩) ?_
  refine all_cons (fun w => ⟨_, Try.typeInfo98 w, rfl⟩) ?_
  refine all_cons (fun w => ⟨_, Try.typeInfo99 w, rfl⟩) ?_
  refine all_cons (fun w => ⟨_, Try.typeInfo100 w, rfl⟩) ?_
  refine all_cons (fun w => ⟨_, Try.typeInfo101 w, rfl⟩) ?_
  refine all_cons (fun w => ⟨_, Try.typeInfo102 w, rfl⟩) ?_
  refine all_cons (fun w => ⟨_, Try.typeInfo103 w, rfl⟩) ?_
  refine all_cons (fun w => ⟨_, Try.typeInfo104 w, rfl⟩) ?_
  refine all_cons (fun w => ⟨_, Try.typeInfo105 w, rfl⟩) ?_
  refine all_cons (fun w => ⟨_, Try.typeInfo106 w, rfl⟩) ?_
  refine all_cons (fun w => ⟨_, Try.typeInfo107 w, rfl⟩) ?_
  refine all_cons (fun w => ⟨_, Try.typeInfo108 w, rfl⟩) ?_
  refine all_cons (fun w => ⟨_, Try.typeInfo109 w, rfl⟩) ?_
  refine all_cons (fun w => ⟨_, Try.typeInfo110 w, rfl⟩) ?_
  refine all_cons (fun w => ⟨_, Try.typeInfo111 w, rfl⟩) ?_
  refine all_cons (fun w => ⟨_, Try.typeInfo112 w, rfl⟩) ?_
  exact fun _ h => nomatch h

theorem tabZ_ok : ∀ x ∈ tabZ, ∀ w, (zeroValue x.1).run Try.prog w = .ok x.2 w := by
  refine all_cons (Try.zeroValue0) ?_
  refine all_cons (Try.zeroValue1) ?_
  refine all_cons (Try.zeroValue2) ?_
  refine all_cons (Try.zeroValue3) ?_
  refine all_cons (Try.zeroValue4) ?_
  refine all_cons (Try.zeroValue5) ?_
  refine all_cons (Try.zeroValue6) ?_
  refine all_cons (Try.zeroValue7) ?_
  refine all_cons (Try.zeroValue8) ?_
  refine all_cons (Try.zeroValue9) ?_
  refine all_cons (Try.zeroValue10) ?_
  refine all_cons (Try.zeroValue11) ?_
  refine all_cons (Try.zeroValue12) ?_
  refine all_cons (Try.zeroValue13) ?_
  refine all_cons (Try.zeroValue14) ?_
  refine all_cons (Try.zeroValue15) ?_
  refine all_cons (Try.zeroValue16) ?_
  refine all_cons (Try.zeroValue17) ?_
  refine all_cons (Try.zeroValue18) ?_
  refine all_cons (Try.zeroValue19) ?_
  refine all_cons (Try.zeroValue20) ?_
  refine all_cons (Try.zeroValue21) ?_
  refine all_cons (Try.zeroValue22) ?_
  refine all_cons (Try.zeroValue23) ?_
  refine all_cons (Try.zeroValue24) ?_
  refine all_cons (Try.zeroValue25) ?_
  refine all_cons (Try.zeroValue26) ?_
  refine all_cons (Try.zeroValue27) ?_
  refine all_cons (Try.zeroValue28) ?_
  refine all_cons (Try.zeroValue29) ?_
  refine all_cons (Try.zeroValue30) ?_
  refine all_cons (Try.zeroValue31) ?_
  refine all_cons (Try.zeroValue32) ?_
  refine all_cons (Try.zeroValue33) ?_
  refine all_cons (Try.zeroValue34) ?_
  refine all_cons (Try.zeroValue35) ?_
  refine all_cons (Try.zeroValue36) ?_
  refine all_cons (Try.zeroValue37) ?_
  refine all_cons (Try.zeroValue38) ?_
  refine all_cons (Try.zeroValue39) ?_
  refine all_cons (Try.zeroValue40) ?_
  refine all_cons (Try.zeroValue41) ?_
  refine all_cons (Try.zeroValue42) ?_
  refine all_cons (Try.zeroValue43) ?_
  refine all_cons (Try.zeroValue44) ?_
  refine all_cons (Try.zeroValue45) ?_
  refine all_cons (Try.zeroValue46) ?_
  refine all_cons (Try.zeroValue47) ?_
  refine all_cons (Try.zeroValue48) ?_
  refine all_cons (Try.zeroValue49) ?_
  refine all_cons (Try.zeroValue50) ?_
  refine all_cons (Try.zeroValue51) ?_
  refine all_cons (Try.zeroValue52) ?_
  refine all_cons (Try.zeroValue53) ?_
  refine all_cons (Try.zeroValue54) ?_
  refine all_cons (Try.zeroValue55) ?_
  refine all_cons (Try.zeroValue56) ?_
  refine all_cons (Try.zeroValue57) ?_
  refine all_cons (Try.zeroValue58) ?_
  refine all_cons (Try.zeroValue59) ?_
  refine all_cons (Try.zeroValue60) ?_
  refine all_cons (Try.zeroValue61) ?_
  refine all_cons (Try.zeroValue62) ?_
  refine all_cons (Try.zeroValue63) ?_
  refine all_cons (Try.zeroValue64) ?_
  refine all_cons (Try.zeroValue65) ?_
  refine all_cons (Try.zeroValue66) ?_
  refine all_cons (Try.zeroValue67) ?_
  refine all_cons (Try.zeroValue68) ?_
  refine all_cons (Try.zeroValue69) ?_
  refine all_cons (Try.zeroValue70) ?_
  refine all_cons (Try.zeroValue71) ?_
  refine all_cons (Try.zeroValue72) ?_
  refine all_cons (Try.zeroValue73) ?_
  refine all_cons (Try.zeroValue74) ?_
  refine all_cons (Try.zeroValue75) ?_
  refine all_cons (Try.zeroValue76) ?_
  refine all_cons (Try.zeroValue77) ?_
  refine all_cons (Try.zeroValue78) ?_
  refine all_cons (Try.zeroValue79) ?_
  refine all_cons (Try.zeroValue80) ?_
  refine all_cons (Try.zeroValue81) ?_
  refine all_cons (Try.zeroValue82) ?_
  refine all_cons (Try.zeroValue83) ?_
  refine all_cons (Try.zeroValue84) ?_
  refine all_cons (Try.zeroValue85) ?_
  refine all_cons (Try.zeroValue86) ?_
  refine all_cons (Try.zeroValue87) ?_
  refine all_cons (Try.zeroValue88) ?_
  refine all_cons (Try.zeroValue89) ?_
  refine all_cons (Try.zeroValue90) ?_
  refine all_cons (Try.zeroValue91) ?_
  refine all_cons (Try.zeroValue92) ?_
  refine all_cons (Try.zeroValue93) ?_
  refine all_cons (Try.zeroValue94) ?_
  refine all_cons (Try.zeroValue95) ?_
  refine all_cons (Try.zeroValue96) ?_
  refine all_cons (Try.zeroValue97) ?_
  refine all_cons (Try.zeroValue98) ?_
  refine all_cons (Try.zeroValue99) ?_
  refine all_cons (Try.zeroValue100) ?_
  refine all_cons (Try.zeroValue101) ?_
  refine all_cons (Try.zeroValue102) ?_
  refine all_cons (Try.zeroValue103) ?_
  refine all_cons (Try.zeroValue104) ?_
  refine all_cons (Try.zeroValue105) ?_
  refine all_cons (Try.zeroValue106) ?_
  refine all_cons (Try.zeroValue107) ?_
  refine all_cons (Try.zeroValue108) ?_
  refine all_cons (Try.zeroValue109) ?_
  refine all_cons (Try.zeroValue110) ?_
  refine all_cons (Try.zeroValue111) ?_
  refine all_cons (Try.zeroValue112) ?_
  exact fun _ h => nomatch h

theorem tok : TabOk Try.prog tab := ⟨tabD_ok, tabS_ok, tabB_ok, tabZ_ok⟩

end Go.Proofs.Ytpllmfoaahaciaa
