/- The seat's types, as the av texts know them. Written by a program (wip/tools/tys.py). -/
import Derived.Test.YtcfkdcjindhnjaaMA
import Derived.Test.YtcfkdcjindhnjaaProg
namespace Go.Proofs.Ytcfkdcjindhnjaa
open Go Go.Av

def ti1 : TI := { sz := 1, by' := 8, zero := [.nilFunc], ud := .func #[] #[] false }
theorem ty1 : TyOk Try.prog 1 ti1 := ⟨by kernel_rfl, by kernel_rfl⟩
def ti2 : TI := { sz := 1, by' := 8, zero := [.int .i64 0], ud := .int .i64 }
theorem ty2 : TyOk Try.prog 2 ti2 := ⟨by kernel_rfl, by kernel_rfl⟩
def ti3 : TI := { sz := 1, by' := 8, zero := [.int .i64 0], ud := .int .i64 }
theorem ty3 : TyOk Try.prog 3 ti3 := ⟨by kernel_rfl, by kernel_rfl⟩
def ti4 : TI := { sz := 1, by' := 1, zero := [.bool false], ud := .bool }
theorem ty4 : TyOk Try.prog 4 ti4 := ⟨by kernel_rfl, by kernel_rfl⟩
def ti5 : TI := { sz := 1, by' := 1, zero := [.int .u8 0], ud := .int .u8 }
theorem ty5 : TyOk Try.prog 5 ti5 := ⟨by kernel_rfl, by kernel_rfl⟩
def ti6 : TI := { sz := 1, by' := 1, zero := [.int .u8 0], ud := .int .u8 }
theorem ty6 : TyOk Try.prog 6 ti6 := ⟨by kernel_rfl, by kernel_rfl⟩
def ti7 : TI := { sz := 4, by' := 24, zero := [.int .i64 0, .int .i64 0, .bool false, .int .u8 0], ud := .struct #[{ name := "x", type := 2, offset := 0, embedded := false, tag := "", pkgPath := "runtime", byteOffset := 0 }, { name := "y", type := 3, offset := 1, embedded := false, tag := "", pkgPath := "runtime", byteOffset := 8 }, { name := "signed", type := 4, offset := 2, embedded := false, tag := "", pkgPath := "runtime", byteOffset := 16 }, { name := "code", type := 6, offset := 3, embedded := false, tag := "", pkgPath := "runtime", byteOffset := 17 }] }
theorem ty7 : TyOk Try.prog 7 ti7 := ⟨by kernel_rfl, by kernel_rfl⟩
def ti8 : TI := { sz := 4, by' := 24, zero := [.int .i64 0, .int .i64 0, .bool false, .int .u8 0], ud := .struct #[{ name := "x", type := 2, offset := 0, embedded := false, tag := "", pkgPath := "runtime", byteOffset := 0 }, { name := "y", type := 3, offset := 1, embedded := false, tag := "", pkgPath := "runtime", byteOffset := 8 }, { name := "signed", type := 4, offset := 2, embedded := false, tag := "", pkgPath := "runtime", byteOffset := 16 }, { name := "code", type := 6, offset := 3, embedded := false, tag := "", pkgPath := "runtime", byteOffset := 17 }] }
theorem ty8 : TyOk Try.prog 8 ti8 := ⟨by kernel_rfl, by kernel_rfl⟩
def ti9 : TI := { sz := 1, by' := 16, zero := [.string .empty], ud := .string }
theorem ty9 : TyOk Try.prog 9 ti9 := ⟨by kernel_rfl, by kernel_rfl⟩
def ti10 : TI := { sz := 1, by' := 16, zero := [.string .empty], ud := .string }
theorem ty10 : TyOk Try.prog 10 ti10 := ⟨by kernel_rfl, by kernel_rfl⟩
def ti11 : TI := { sz := 1, by' := 16, zero := [.string .empty], ud := .string }
theorem ty11 : TyOk Try.prog 11 ti11 := ⟨by kernel_rfl, by kernel_rfl⟩
def ti12 : TI := { sz := 1, by' := 8, zero := [.int .u64 0], ud := .int .u64 }
theorem ty12 : TyOk Try.prog 12 ti12 := ⟨by kernel_rfl, by kernel_rfl⟩
def ti13 : TI := { sz := 2, by' := 24, zero := [.string .empty, .int .u64 0], ud := .struct #[{ name := "msg", type := 9, offset := 0, embedded := false, tag := "", pkgPath := "runtime", byteOffset := 0 }, { name := "addr", type := 12, offset := 1, embedded := false, tag := "", pkgPath := "runtime", byteOffset := 16 }] }
theorem ty13 : TyOk Try.prog 13 ti13 := ⟨by kernel_rfl, by kernel_rfl⟩
def ti14 : TI := { sz := 2, by' := 24, zero := [.string .empty, .int .u64 0], ud := .struct #[{ name := "msg", type := 9, offset := 0, embedded := false, tag := "", pkgPath := "runtime", byteOffset := 0 }, { name := "addr", type := 12, offset := 1, embedded := false, tag := "", pkgPath := "runtime", byteOffset := 16 }] }
theorem ty14 : TyOk Try.prog 14 ti14 := ⟨by kernel_rfl, by kernel_rfl⟩
def ti15 : TI := { sz := 1, by' := 8, zero := [.pointer none], ud := .pointer 70 }
theorem ty15 : TyOk Try.prog 15 ti15 := ⟨by kernel_rfl, by kernel_rfl⟩
def ti16 : TI := { sz := 1, by' := 8, zero := [.pointer none], ud := .pointer 73 }
theorem ty16 : TyOk Try.prog 16 ti16 := ⟨by kernel_rfl, by kernel_rfl⟩
def ti17 : TI := { sz := 1, by' := 8, zero := [.pointer none], ud := .pointer 82 }
theorem ty17 : TyOk Try.prog 17 ti17 := ⟨by kernel_rfl, by kernel_rfl⟩
def ti18 : TI := { sz := 1, by' := 8, zero := [.pointer none], ud := .struct #[{ name := "typ", type := 17, offset := 0, embedded := false, tag := "", pkgPath := "internal/runtime/maps", byteOffset := 0 }] }
theorem ty18 : TyOk Try.prog 18 ti18 := ⟨by kernel_rfl, by kernel_rfl⟩
def ti19 : TI := { sz := 1, by' := 8, zero := [.pointer none], ud := .struct #[{ name := "typ", type := 17, offset := 0, embedded := false, tag := "", pkgPath := "internal/runtime/maps", byteOffset := 0 }] }
theorem ty19 : TyOk Try.prog 19 ti19 := ⟨by kernel_rfl, by kernel_rfl⟩
def ti21 : TI := { sz := 1, by' := 4, zero := [.int .i32 0], ud := .int .i32 }
theorem ty21 : TyOk Try.prog 21 ti21 := ⟨by kernel_rfl, by kernel_rfl⟩
def ti22 : TI := { sz := 1, by' := 24, zero := [.slice none 0 0], ud := .slice 2 }
theorem ty22 : TyOk Try.prog 22 ti22 := ⟨by kernel_rfl, by kernel_rfl⟩
def ti24 : TI := { sz := 1, by' := 8, zero := [.nilFunc], ud := .func #[22, 2] #[22, 2, 2] false }
theorem ty24 : TyOk Try.prog 24 ti24 := ⟨by kernel_rfl, by kernel_rfl⟩
def ti25 : TI := { sz := 1, by' := 8, zero := [.nilFunc], ud := .func #[22] #[22] false }
theorem ty25 : TyOk Try.prog 25 ti25 := ⟨by kernel_rfl, by kernel_rfl⟩
def ti26 : TI := { sz := 1, by' := 8, zero := [.nilFunc], ud := .func #[22, 22] #[4] false }
theorem ty26 : TyOk Try.prog 26 ti26 := ⟨by kernel_rfl, by kernel_rfl⟩
def ti27 : TI := { sz := 1, by' := 8, zero := [.nilFunc], ud := .func #[22, 3] #[3] false }
theorem ty27 : TyOk Try.prog 27 ti27 := ⟨by kernel_rfl, by kernel_rfl⟩
def ti28 : TI := { sz := 1, by' := 8, zero := [.nilFunc], ud := .func #[22, 2] #[4] false }
theorem ty28 : TyOk Try.prog 28 ti28 := ⟨by kernel_rfl, by kernel_rfl⟩
def ti29 : TI := { sz := 1, by' := 8, zero := [.nilFunc], ud := .func #[22, 2] #[2] false }
theorem ty29 : TyOk Try.prog 29 ti29 := ⟨by kernel_rfl, by kernel_rfl⟩
def ti30 : TI := { sz := 1, by' := 8, zero := [.nilFunc], ud := .func #[2, 2] #[2] false }
theorem ty30 : TyOk Try.prog 30 ti30 := ⟨by kernel_rfl, by kernel_rfl⟩
def ti31 : TI := { sz := 1, by' := 8, zero := [.nilFunc], ud := .func #[33] #[22] false }
theorem ty31 : TyOk Try.prog 31 ti31 := ⟨by kernel_rfl, by kernel_rfl⟩
def ti32 : TI := { sz := 1, by' := 8, zero := [.nilFunc], ud := .func #[36] #[] false }
theorem ty32 : TyOk Try.prog 32 ti32 := ⟨by kernel_rfl, by kernel_rfl⟩
def ti33 : TI := { sz := 1, by' := 8, zero := [.nilFunc], ud := .func #[36] #[] false }
theorem ty33 : TyOk Try.prog 33 ti33 := ⟨by kernel_rfl, by kernel_rfl⟩
def ti34 : TI := { sz := 1, by' := 8, zero := [.nilFunc], ud := .func #[22] #[33] false }
theorem ty34 : TyOk Try.prog 34 ti34 := ⟨by kernel_rfl, by kernel_rfl⟩
def ti35 : TI := { sz := 1, by' := 8, zero := [.nilFunc], ud := .func #[22, 36] #[3] false }
theorem ty35 : TyOk Try.prog 35 ti35 := ⟨by kernel_rfl, by kernel_rfl⟩
def ti36 : TI := { sz := 1, by' := 8, zero := [.nilFunc], ud := .func #[2] #[4] false }
theorem ty36 : TyOk Try.prog 36 ti36 := ⟨by kernel_rfl, by kernel_rfl⟩
def ti37 : TI := { sz := 1, by' := 8, zero := [.nilFunc], ud := .func #[22] #[] false }
theorem ty37 : TyOk Try.prog 37 ti37 := ⟨by kernel_rfl, by kernel_rfl⟩
def ti38 : TI := { sz := 1, by' := 8, zero := [.nilFunc], ud := .func #[2, 2] #[3] false }
theorem ty38 : TyOk Try.prog 38 ti38 := ⟨by kernel_rfl, by kernel_rfl⟩
def ti39 : TI := { sz := 1, by' := 8, zero := [.nilFunc], ud := .func #[22, 22] #[3] false }
theorem ty39 : TyOk Try.prog 39 ti39 := ⟨by kernel_rfl, by kernel_rfl⟩
def ti40 : TI := { sz := 1, by' := 8, zero := [.nilFunc], ud := .func #[2, 2, 2] #[4] false }
theorem ty40 : TyOk Try.prog 40 ti40 := ⟨by kernel_rfl, by kernel_rfl⟩
def ti41 : TI := { sz := 1, by' := 8, zero := [.nilFunc], ud := .func #[22, 36] #[4] false }
theorem ty41 : TyOk Try.prog 41 ti41 := ⟨by kernel_rfl, by kernel_rfl⟩
def ti42 : TI := { sz := 1, by' := 8, zero := [.nilFunc], ud := .func #[22, 33] #[22] false }
theorem ty42 : TyOk Try.prog 42 ti42 := ⟨by kernel_rfl, by kernel_rfl⟩
def ti43 : TI := { sz := 1, by' := 8, zero := [.nilFunc], ud := .func #[22, 3, 3, 3] #[] false }
theorem ty43 : TyOk Try.prog 43 ti43 := ⟨by kernel_rfl, by kernel_rfl⟩
def ti44 : TI := { sz := 1, by' := 8, zero := [.nilFunc], ud := .func #[45] #[3] false }
theorem ty44 : TyOk Try.prog 44 ti44 := ⟨by kernel_rfl, by kernel_rfl⟩
def ti45 : TI := { sz := 1, by' := 8, zero := [.int .u64 0], ud := .int .u64 }
theorem ty45 : TyOk Try.prog 45 ti45 := ⟨by kernel_rfl, by kernel_rfl⟩
def ti46 : TI := { sz := 1, by' := 8, zero := [.nilFunc], ud := .func #[22, 3, 3] #[] false }
theorem ty46 : TyOk Try.prog 46 ti46 := ⟨by kernel_rfl, by kernel_rfl⟩
def ti47 : TI := { sz := 1, by' := 8, zero := [.int .i64 0], ud := .int .i64 }
theorem ty47 : TyOk Try.prog 47 ti47 := ⟨by kernel_rfl, by kernel_rfl⟩
def ti49 : TI := { sz := 1, by' := 8, zero := [.nilFunc], ud := .func #[22, 3, 3] #[3, 47] false }
theorem ty49 : TyOk Try.prog 49 ti49 := ⟨by kernel_rfl, by kernel_rfl⟩
def ti50 : TI := { sz := 1, by' := 8, zero := [.nilFunc], ud := .func #[22, 3, 3] #[4] false }
theorem ty50 : TyOk Try.prog 50 ti50 := ⟨by kernel_rfl, by kernel_rfl⟩
def ti51 : TI := { sz := 1, by' := 8, zero := [.nilFunc], ud := .func #[2, 2] #[4] false }
theorem ty51 : TyOk Try.prog 51 ti51 := ⟨by kernel_rfl, by kernel_rfl⟩
def ti52 : TI := { sz := 1, by' := 8, zero := [.nilFunc], ud := .func #[22, 3, 3, 3] #[3] false }
theorem ty52 : TyOk Try.prog 52 ti52 := ⟨by kernel_rfl, by kernel_rfl⟩
def ti54 : TI := { sz := 1, by' := 8, zero := [.nilFunc], ud := .func #[22, 3, 3, 3] #[3, 4] false }
theorem ty54 : TyOk Try.prog 54 ti54 := ⟨by kernel_rfl, by kernel_rfl⟩
def ti55 : TI := { sz := 1, by' := 8, zero := [.nilFunc], ud := .func #[56] #[3] false }
theorem ty55 : TyOk Try.prog 55 ti55 := ⟨by kernel_rfl, by kernel_rfl⟩
def ti56 : TI := { sz := 1, by' := 4, zero := [.int .u32 0], ud := .int .u32 }
theorem ty56 : TyOk Try.prog 56 ti56 := ⟨by kernel_rfl, by kernel_rfl⟩
def ti57 : TI := { sz := 1, by' := 8, zero := [.nilFunc], ud := .func #[58] #[3] false }
theorem ty57 : TyOk Try.prog 57 ti57 := ⟨by kernel_rfl, by kernel_rfl⟩
def ti58 : TI := { sz := 1, by' := 8, zero := [.int .u64 0], ud := .int .u64 }
theorem ty58 : TyOk Try.prog 58 ti58 := ⟨by kernel_rfl, by kernel_rfl⟩
def ti59 : TI := { sz := 1, by' := 8, zero := [.int .u64 0], ud := .int .u64 }
theorem ty59 : TyOk Try.prog 59 ti59 := ⟨by kernel_rfl, by kernel_rfl⟩
def ti60 : TI := { sz := 1, by' := 8, zero := [.nilFunc], ud := .func #[3] #[45] false }
theorem ty60 : TyOk Try.prog 60 ti60 := ⟨by kernel_rfl, by kernel_rfl⟩
def ti61 : TI := { sz := 1, by' := 8, zero := [.nilFunc], ud := .func #[] #[58] false }
theorem ty61 : TyOk Try.prog 61 ti61 := ⟨by kernel_rfl, by kernel_rfl⟩
def ti62 : TI := { sz := 1, by' := 8, zero := [.nilFunc], ud := .func #[22, 3, 63] #[3] false }
theorem ty62 : TyOk Try.prog 62 ti62 := ⟨by kernel_rfl, by kernel_rfl⟩
def ti63 : TI := { sz := 1, by' := 8, zero := [.pointer none], ud := .pointer 3 }
theorem ty63 : TyOk Try.prog 63 ti63 := ⟨by kernel_rfl, by kernel_rfl⟩
def ti64 : TI := { sz := 1, by' := 8, zero := [.nilFunc], ud := .func #[22, 3, 3, 3, 63] #[3] false }
theorem ty64 : TyOk Try.prog 64 ti64 := ⟨by kernel_rfl, by kernel_rfl⟩
def ti65 : TI := { sz := 1, by' := 8, zero := [.pointer none], ud := .pointer 59 }
theorem ty65 : TyOk Try.prog 65 ti65 := ⟨by kernel_rfl, by kernel_rfl⟩
def ti67 : TI := { sz := 1, by' := 8, zero := [.nilFunc], ud := .func #[22, 3, 3, 63] #[3, 3] false }
theorem ty67 : TyOk Try.prog 67 ti67 := ⟨by kernel_rfl, by kernel_rfl⟩
def ti68 : TI := { sz := 1, by' := 8, zero := [.nilFunc], ud := .func #[] #[9] false }
theorem ty68 : TyOk Try.prog 68 ti68 := ⟨by kernel_rfl, by kernel_rfl⟩
def ti69 : TI := { sz := 4, by' := 40, zero := [.pointer none, .pointer none, .pointer none, .string .empty], ud := .struct #[{ name := "_interface", type := 17, offset := 0, embedded := false, tag := "", pkgPath := "runtime", byteOffset := 0 }, { name := "concrete", type := 17, offset := 1, embedded := false, tag := "", pkgPath := "runtime", byteOffset := 8 }, { name := "asserted", type := 17, offset := 2, embedded := false, tag := "", pkgPath := "runtime", byteOffset := 16 }, { name := "missingMethod", type := 9, offset := 3, embedded := false, tag := "", pkgPath := "runtime", byteOffset := 24 }] }
theorem ty69 : TyOk Try.prog 69 ti69 := ⟨by kernel_rfl, by kernel_rfl⟩
def ti70 : TI := { sz := 4, by' := 40, zero := [.pointer none, .pointer none, .pointer none, .string .empty], ud := .struct #[{ name := "_interface", type := 17, offset := 0, embedded := false, tag := "", pkgPath := "runtime", byteOffset := 0 }, { name := "concrete", type := 17, offset := 1, embedded := false, tag := "", pkgPath := "runtime", byteOffset := 8 }, { name := "asserted", type := 17, offset := 2, embedded := false, tag := "", pkgPath := "runtime", byteOffset := 16 }, { name := "missingMethod", type := 9, offset := 3, embedded := false, tag := "", pkgPath := "runtime", byteOffset := 24 }] }
theorem ty70 : TyOk Try.prog 70 ti70 := ⟨by kernel_rfl, by kernel_rfl⟩
def ti74 : TI := { sz := 1, by' := 8, zero := [.nilFunc], ud := .func #[] #[3] false }
theorem ty74 : TyOk Try.prog 74 ti74 := ⟨by kernel_rfl, by kernel_rfl⟩
def ti75 : TI := { sz := 1, by' := 1, zero := [.int .u8 0], ud := .int .u8 }
theorem ty75 : TyOk Try.prog 75 ti75 := ⟨by kernel_rfl, by kernel_rfl⟩
def ti76 : TI := { sz := 1, by' := 1, zero := [.int .u8 0], ud := .int .u8 }
theorem ty76 : TyOk Try.prog 76 ti76 := ⟨by kernel_rfl, by kernel_rfl⟩
def ti77 : TI := { sz := 1, by' := 8, zero := [.nilFunc], ud := .func #[83, 83] #[4] false }
theorem ty77 : TyOk Try.prog 77 ti77 := ⟨by kernel_rfl, by kernel_rfl⟩
def ti78 : TI := { sz := 1, by' := 8, zero := [.pointer none], ud := .pointer 5 }
theorem ty78 : TyOk Try.prog 78 ti78 := ⟨by kernel_rfl, by kernel_rfl⟩
def ti79 : TI := { sz := 1, by' := 4, zero := [.int .i32 0], ud := .int .i32 }
theorem ty79 : TyOk Try.prog 79 ti79 := ⟨by kernel_rfl, by kernel_rfl⟩
def ti80 : TI := { sz := 1, by' := 4, zero := [.int .i32 0], ud := .int .i32 }
theorem ty80 : TyOk Try.prog 80 ti80 := ⟨by kernel_rfl, by kernel_rfl⟩
def ti81 : TI := { sz := 11, by' := 48, zero := [.int .u64 0, .int .u64 0, .int .u32 0, .int .u8 0, .int .u8 0, .int .u8 0, .int .u8 0, .nilFunc, .pointer none, .int .i32 0, .int .i32 0], ud := .struct #[{ name := "Size_", type := 12, offset := 0, embedded := false, tag := "", pkgPath := "", byteOffset := 0 }, { name := "PtrBytes", type := 12, offset := 1, embedded := false, tag := "", pkgPath := "", byteOffset := 8 }, { name := "Hash", type := 56, offset := 2, embedded := false, tag := "", pkgPath := "", byteOffset := 16 }, { name := "TFlag", type := 75, offset := 3, embedded := false, tag := "", pkgPath := "", byteOffset := 20 }, { name := "Align_", type := 5, offset := 4, embedded := false, tag := "", pkgPath := "", byteOffset := 21 }, { name := "FieldAlign_", type := 5, offset := 5, embedded := false, tag := "", pkgPath := "", byteOffset := 22 }, { name := "Kind_", type := 76, offset := 6, embedded := false, tag := "", pkgPath := "", byteOffset := 23 }, { name := "Equal", type := 77, offset := 7, embedded := false, tag := "", pkgPath := "", byteOffset := 24 }, { name := "GCData", type := 78, offset := 8, embedded := false, tag := "", pkgPath := "", byteOffset := 32 }, { name := "Str", type := 79, offset := 9, embedded := false, tag := "", pkgPath := "", byteOffset := 40 }, { name := "PtrToThis", type := 80, offset := 10, embedded := false, tag := "", pkgPath := "", byteOffset := 44 }] }
theorem ty81 : TyOk Try.prog 81 ti81 := ⟨by kernel_rfl, by kernel_rfl⟩
def ti82 : TI := { sz := 11, by' := 48, zero := [.int .u64 0, .int .u64 0, .int .u32 0, .int .u8 0, .int .u8 0, .int .u8 0, .int .u8 0, .nilFunc, .pointer none, .int .i32 0, .int .i32 0], ud := .struct #[{ name := "Size_", type := 12, offset := 0, embedded := false, tag := "", pkgPath := "", byteOffset := 0 }, { name := "PtrBytes", type := 12, offset := 1, embedded := false, tag := "", pkgPath := "", byteOffset := 8 }, { name := "Hash", type := 56, offset := 2, embedded := false, tag := "", pkgPath := "", byteOffset := 16 }, { name := "TFlag", type := 75, offset := 3, embedded := false, tag := "", pkgPath := "", byteOffset := 20 }, { name := "Align_", type := 5, offset := 4, embedded := false, tag := "", pkgPath := "", byteOffset := 21 }, { name := "FieldAlign_", type := 5, offset := 5, embedded := false, tag := "", pkgPath := "", byteOffset := 22 }, { name := "Kind_", type := 76, offset := 6, embedded := false, tag := "", pkgPath := "", byteOffset := 23 }, { name := "Equal", type := 77, offset := 7, embedded := false, tag := "", pkgPath := "", byteOffset := 24 }, { name := "GCData", type := 78, offset := 8, embedded := false, tag := "", pkgPath := "", byteOffset := 32 }, { name := "Str", type := 79, offset := 9, embedded := false, tag := "", pkgPath := "", byteOffset := 40 }, { name := "PtrToThis", type := 80, offset := 10, embedded := false, tag := "", pkgPath := "", byteOffset := 44 }] }
theorem ty82 : TyOk Try.prog 82 ti82 := ⟨by kernel_rfl, by kernel_rfl⟩
def tab : List (Nat × TI) := [(1, ti1), (2, ti2), (3, ti3), (4, ti4), (5, ti5), (6, ti6), (7, ti7), (8, ti8), (9, ti9), (10, ti10), (11, ti11), (12, ti12), (13, ti13), (14, ti14), (15, ti15), (16, ti16), (17, ti17), (18, ti18), (19, ti19), (21, ti21), (22, ti22), (24, ti24), (25, ti25), (26, ti26), (27, ti27), (28, ti28), (29, ti29), (30, ti30), (31, ti31), (32, ti32), (33, ti33), (34, ti34), (35, ti35), (36, ti36), (37, ti37), (38, ti38), (39, ti39), (40, ti40), (41, ti41), (42, ti42), (43, ti43), (44, ti44), (45, ti45), (46, ti46), (47, ti47), (49, ti49), (50, ti50), (51, ti51), (52, ti52), (54, ti54), (55, ti55), (56, ti56), (57, ti57), (58, ti58), (59, ti59), (60, ti60), (61, ti61), (62, ti62), (63, ti63), (64, ti64), (65, ti65), (67, ti67), (68, ti68), (69, ti69), (70, ti70), (74, ti74), (75, ti75), (76, ti76), (77, ti77), (78, ti78), (79, ti79), (80, ti80), (81, ti81), (82, ti82)]
theorem tab_ok : ∀ e ∈ tab, TyOk Try.prog e.1 e.2 := by
  unfold tab
  refine List.forall_mem_cons.2 ⟨ty1, ?_⟩
  refine List.forall_mem_cons.2 ⟨ty2, ?_⟩
  refine List.forall_mem_cons.2 ⟨ty3, ?_⟩
  refine List.forall_mem_cons.2 ⟨ty4, ?_⟩
  refine List.forall_mem_cons.2 ⟨ty5, ?_⟩
  refine List.forall_mem_cons.2 ⟨ty6, ?_⟩
  refine List.forall_mem_cons.2 ⟨ty7, ?_⟩
  refine List.forall_mem_cons.2 ⟨ty8, ?_⟩
  refine List.forall_mem_cons.2 ⟨ty9, ?_⟩
  refine List.forall_mem_cons.2 ⟨ty10, ?_⟩
  refine List.forall_mem_cons.2 ⟨ty11, ?_⟩
  refine List.forall_mem_cons.2 ⟨ty12, ?_⟩
  refine List.forall_mem_cons.2 ⟨ty13, ?_⟩
  refine List.forall_mem_cons.2 ⟨ty14, ?_⟩
  refine List.forall_mem_cons.2 ⟨ty15, ?_⟩
  refine List.forall_mem_cons.2 ⟨ty16, ?_⟩
  refine List.forall_mem_cons.2 ⟨ty17, ?_⟩
  refine List.forall_mem_cons.2 ⟨ty18, ?_⟩
  refine List.forall_mem_cons.2 ⟨ty19, ?_⟩
  refine List.forall_mem_cons.2 ⟨ty21, ?_⟩
  refine List.forall_mem_cons.2 ⟨ty22, ?_⟩
  refine List.forall_mem_cons.2 ⟨ty24, ?_⟩
  refine List.forall_mem_cons.2 ⟨ty25, ?_⟩
  refine List.forall_mem_cons.2 ⟨ty26, ?_⟩
  refine List.forall_mem_cons.2 ⟨ty27, ?_⟩
  refine List.forall_mem_cons.2 ⟨ty28, ?_⟩
  refine List.forall_mem_cons.2 ⟨ty29, ?_⟩
  refine List.forall_mem_cons.2 ⟨ty30, ?_⟩
  refine List.forall_mem_cons.2 ⟨ty31, ?_⟩
  refine List.forall_mem_cons.2 ⟨ty32, ?_⟩
  refine List.forall_mem_cons.2 ⟨ty33, ?_⟩
  refine List.forall_mem_cons.2 ⟨ty34, ?_⟩
  refine List.forall_mem_cons.2 ⟨ty35, ?_⟩
  refine List.forall_mem_cons.2 ⟨ty36, ?_⟩
  refine List.forall_mem_cons.2 ⟨ty37, ?_⟩
  refine List.forall_mem_cons.2 ⟨ty38, ?_⟩
  refine List.forall_mem_cons.2 ⟨ty39, ?_⟩
  refine List.forall_mem_cons.2 ⟨ty40, ?_⟩
  refine List.forall_mem_cons.2 ⟨ty41, ?_⟩
  refine List.forall_mem_cons.2 ⟨ty42, ?_⟩
  refine List.forall_mem_cons.2 ⟨ty43, ?_⟩
  refine List.forall_mem_cons.2 ⟨ty44, ?_⟩
  refine List.forall_mem_cons.2 ⟨ty45, ?_⟩
  refine List.forall_mem_cons.2 ⟨ty46, ?_⟩
  refine List.forall_mem_cons.2 ⟨ty47, ?_⟩
  refine List.forall_mem_cons.2 ⟨ty49, ?_⟩
  refine List.forall_mem_cons.2 ⟨ty50, ?_⟩
  refine List.forall_mem_cons.2 ⟨ty51, ?_⟩
  refine List.forall_mem_cons.2 ⟨ty52, ?_⟩
  refine List.forall_mem_cons.2 ⟨ty54, ?_⟩
  refine List.forall_mem_cons.2 ⟨ty55, ?_⟩
  refine List.forall_mem_cons.2 ⟨ty56, ?_⟩
  refine List.forall_mem_cons.2 ⟨ty57, ?_⟩
  refine List.forall_mem_cons.2 ⟨ty58, ?_⟩
  refine List.forall_mem_cons.2 ⟨ty59, ?_⟩
  refine List.forall_mem_cons.2 ⟨ty60, ?_⟩
  refine List.forall_mem_cons.2 ⟨ty61, ?_⟩
  refine List.forall_mem_cons.2 ⟨ty62, ?_⟩
  refine List.forall_mem_cons.2 ⟨ty63, ?_⟩
  refine List.forall_mem_cons.2 ⟨ty64, ?_⟩
  refine List.forall_mem_cons.2 ⟨ty65, ?_⟩
  refine List.forall_mem_cons.2 ⟨ty67, ?_⟩
  refine List.forall_mem_cons.2 ⟨ty68, ?_⟩
  refine List.forall_mem_cons.2 ⟨ty69, ?_⟩
  refine List.forall_mem_cons.2 ⟨ty70, ?_⟩
  refine List.forall_mem_cons.2 ⟨ty74, ?_⟩
  refine List.forall_mem_cons.2 ⟨ty75, ?_⟩
  refine List.forall_mem_cons.2 ⟨ty76, ?_⟩
  refine List.forall_mem_cons.2 ⟨ty77, ?_⟩
  refine List.forall_mem_cons.2 ⟨ty78, ?_⟩
  refine List.forall_mem_cons.2 ⟨ty79, ?_⟩
  refine List.forall_mem_cons.2 ⟨ty80, ?_⟩
  refine List.forall_mem_cons.2 ⟨ty81, ?_⟩
  refine List.forall_mem_cons.2 ⟨ty82, ?_⟩
  simp
def tys : Nat → Option TI := lookT tab
theorem tys_ok : ∀ t i, tys t = some i → TyOk Try.prog t i := lookT_ok tab_ok
end Go.Proofs.Ytcfkdcjindhnjaa
