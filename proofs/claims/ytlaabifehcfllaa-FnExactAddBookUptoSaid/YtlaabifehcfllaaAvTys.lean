/- The seat's types, as the av texts know them. Written by a program (wip/tools/tys.py). -/
import Derived.Test.YtlaabifehcfllaaMA
import Derived.Test.YtlaabifehcfllaaProg
namespace Go.Proofs.Ytlaabifehcfllaa
open Go Go.Av

def ti1 : TI := { sz := 1, by' := 8, zero := [.nilFunc], ud := .func #[] #[] false }
theorem ty1 : TyOk Try.prog 1 ti1 := ⟨by kernel_rfl, by kernel_rfl⟩
def ti2 : TI := { sz := 1, by' := 8, zero := [.int .i64 0], ud := .int .i64 }
theorem ty2 : TyOk Try.prog 2 ti2 := ⟨by kernel_rfl, by kernel_rfl⟩
def ti3 : TI := { sz := 1, by' := 8, zero := [.int .i64 0], ud := .int .i64 }
theorem ty3 : TyOk Try.prog 3 ti3 := ⟨by kernel_rfl, by kernel_rfl⟩
def ti4 : TI := { sz := 1, by' := 1, zero := [.bool false], ud := .bool }
theorem ty4 : TyOk Try.prog 4 ti4 := ⟨by kernel_rfl, by kernel_rfl⟩
def ti5 : TI := { sz := 1, by' := 1, zero := [.int .u8 0], ud := .int .u8 }
theorem ty5 : TyOk Try.prog 5 ti5 := ⟨by kernel_rfl, by kernel_rfl⟩
def ti6 : TI := { sz := 1, by' := 1, zero := [.int .u8 0], ud := .int .u8 }
theorem ty6 : TyOk Try.prog 6 ti6 := ⟨by kernel_rfl, by kernel_rfl⟩
def ti7 : TI := { sz := 4, by' := 24, zero := [.int .i64 0, .int .i64 0, .bool false, .int .u8 0], ud := .struct #[{ name := "x", type := 2, offset := 0, embedded := false, tag := "", pkgPath := "runtime", byteOffset := 0 }, { name := "y", type := 3, offset := 1, embedded := false, tag := "", pkgPath := "runtime", byteOffset := 8 }, { name := "signed", type := 4, offset := 2, embedded := false, tag := "", pkgPath := "runtime", byteOffset := 16 }, { name := "code", type := 6, offset := 3, embedded := false, tag := "", pkgPath := "runtime", byteOffset := 17 }] }
theorem ty7 : TyOk Try.prog 7 ti7 := ⟨by kernel_rfl, by kernel_rfl⟩
def ti8 : TI := { sz := 4, by' := 24, zero := [.int .i64 0, .int .i64 0, .bool false, .int .u8 0], ud := .struct #[{ name := "x", type := 2, offset := 0, embedded := false, tag := "", pkgPath := "runtime", byteOffset := 0 }, { name := "y", type := 3, offset := 1, embedded := false, tag := "", pkgPath := "runtime", byteOffset := 8 }, { name := "signed", type := 4, offset := 2, embedded := false, tag := "", pkgPath := "runtime", byteOffset := 16 }, { name := "code", type := 6, offset := 3, embedded := false, tag := "", pkgPath := "runtime", byteOffset := 17 }] }
theorem ty8 : TyOk Try.prog 8 ti8 := ⟨by kernel_rfl, by kernel_rfl⟩
def ti9 : TI := { sz := 1, by' := 16, zero := [.string .empty], ud := .string }
theorem ty9 : TyOk Try.prog 9 ti9 := ⟨by kernel_rfl, by kernel_rfl⟩
def ti10 : TI := { sz := 1, by' := 16, zero := [.string .empty], ud := .string }
theorem ty10 : TyOk Try.prog 10 ti10 := ⟨by kernel_rfl, by kernel_rfl⟩
def ti11 : TI := { sz := 1, by' := 16, zero := [.string .empty], ud := .string }
theorem ty11 : TyOk Try.prog 11 ti11 := ⟨by kernel_rfl, by kernel_rfl⟩
def ti12 : TI := { sz := 1, by' := 8, zero := [.int .u64 0], ud := .int .u64 }
theorem ty12 : TyOk Try.prog 12 ti12 := ⟨by kernel_rfl, by kernel_rfl⟩
def ti13 : TI := { sz := 2, by' := 24, zero := [.string .empty, .int .u64 0], ud := .struct #[{ name := "msg", type := 9, offset := 0, embedded := false, tag := "", pkgPath := "runtime", byteOffset := 0 }, { name := "addr", type := 12, offset := 1, embedded := false, tag := "", pkgPath := "runtime", byteOffset := 16 }] }
theorem ty13 : TyOk Try.prog 13 ti13 := ⟨by kernel_rfl, by kernel_rfl⟩
def ti14 : TI := { sz := 2, by' := 24, zero := [.string .empty, .int .u64 0], ud := .struct #[{ name := "msg", type := 9, offset := 0, embedded := false, tag := "", pkgPath := "runtime", byteOffset := 0 }, { name := "addr", type := 12, offset := 1, embedded := false, tag := "", pkgPath := "runtime", byteOffset := 16 }] }
theorem ty14 : TyOk Try.prog 14 ti14 := ⟨by kernel_rfl, by kernel_rfl⟩
def ti15 : TI := { sz := 1, by' := 8, zero := [.pointer none], ud := .pointer 219 }
theorem ty15 : TyOk Try.prog 15 ti15 := ⟨by kernel_rfl, by kernel_rfl⟩
def ti16 : TI := { sz := 1, by' := 8, zero := [.pointer none], ud := .pointer 222 }
theorem ty16 : TyOk Try.prog 16 ti16 := ⟨by kernel_rfl, by kernel_rfl⟩
def ti17 : TI := { sz := 1, by' := 8, zero := [.pointer none], ud := .pointer 231 }
theorem ty17 : TyOk Try.prog 17 ti17 := ⟨by kernel_rfl, by kernel_rfl⟩
def ti18 : TI := { sz := 1, by' := 8, zero := [.pointer none], ud := .struct #[{ name := "typ", type := 17, offset := 0, embedded := false, tag := "", pkgPath := "internal/runtime/maps", byteOffset := 0 }] }
theorem ty18 : TyOk Try.prog 18 ti18 := ⟨by kernel_rfl, by kernel_rfl⟩
def ti19 : TI := { sz := 1, by' := 8, zero := [.pointer none], ud := .struct #[{ name := "typ", type := 17, offset := 0, embedded := false, tag := "", pkgPath := "internal/runtime/maps", byteOffset := 0 }] }
theorem ty19 : TyOk Try.prog 19 ti19 := ⟨by kernel_rfl, by kernel_rfl⟩
def ti21 : TI := { sz := 1, by' := 4, zero := [.int .i32 0], ud := .int .i32 }
theorem ty21 : TyOk Try.prog 21 ti21 := ⟨by kernel_rfl, by kernel_rfl⟩
def ti22 : TI := { sz := 1, by' := 24, zero := [.slice none 0 0], ud := .slice 58 }
theorem ty22 : TyOk Try.prog 22 ti22 := ⟨by kernel_rfl, by kernel_rfl⟩
def ti23 : TI := { sz := 1, by' := 8, zero := [.nilFunc], ud := .func #[22, 3] #[3] false }
theorem ty23 : TyOk Try.prog 23 ti23 := ⟨by kernel_rfl, by kernel_rfl⟩
def ti24 : TI := { sz := 1, by' := 24, zero := [.slice none 0 0], ud := .slice 2 }
theorem ty24 : TyOk Try.prog 24 ti24 := ⟨by kernel_rfl, by kernel_rfl⟩
def ti26 : TI := { sz := 1, by' := 8, zero := [.nilFunc], ud := .func #[27] #[24, 2] false }
theorem ty26 : TyOk Try.prog 26 ti26 := ⟨by kernel_rfl, by kernel_rfl⟩
def ti27 : TI := { sz := 1, by' := 24, zero := [.slice none 0 0], ud := .slice 61 }
theorem ty27 : TyOk Try.prog 27 ti27 := ⟨by kernel_rfl, by kernel_rfl⟩
def ti28 : TI := { sz := 1, by' := 8, zero := [.nilFunc], ud := .func #[22] #[27] false }
theorem ty28 : TyOk Try.prog 28 ti28 := ⟨by kernel_rfl, by kernel_rfl⟩
def ti29 : TI := { sz := 1, by' := 8, zero := [.nilFunc], ud := .func #[24, 24] #[4] false }
theorem ty29 : TyOk Try.prog 29 ti29 := ⟨by kernel_rfl, by kernel_rfl⟩
def ti30 : TI := { sz := 1, by' := 8, zero := [.nilFunc], ud := .func #[27, 27] #[4] false }
theorem ty30 : TyOk Try.prog 30 ti30 := ⟨by kernel_rfl, by kernel_rfl⟩
def ti31 : TI := { sz := 1, by' := 8, zero := [.nilFunc], ud := .func #[27, 3] #[3] false }
theorem ty31 : TyOk Try.prog 31 ti31 := ⟨by kernel_rfl, by kernel_rfl⟩
def ti32 : TI := { sz := 1, by' := 8, zero := [.nilFunc], ud := .func #[24, 3] #[3] false }
theorem ty32 : TyOk Try.prog 32 ti32 := ⟨by kernel_rfl, by kernel_rfl⟩
def ti33 : TI := { sz := 1, by' := 8, zero := [.nilFunc], ud := .func #[22] #[4] false }
theorem ty33 : TyOk Try.prog 33 ti33 := ⟨by kernel_rfl, by kernel_rfl⟩
def ti35 : TI := { sz := 1, by' := 8, zero := [.nilFunc], ud := .func #[27, 27] #[2, 2] false }
theorem ty35 : TyOk Try.prog 35 ti35 := ⟨by kernel_rfl, by kernel_rfl⟩
def ti36 : TI := { sz := 1, by' := 8, zero := [.nilFunc], ud := .func #[22, 22] #[4] false }
theorem ty36 : TyOk Try.prog 36 ti36 := ⟨by kernel_rfl, by kernel_rfl⟩
def ti37 : TI := { sz := 1, by' := 2, zero := [.int .i16 0], ud := .int .i16 }
theorem ty37 : TyOk Try.prog 37 ti37 := ⟨by kernel_rfl, by kernel_rfl⟩
def ti38 : TI := { sz := 2, by' := 4, zero := [.int .i16 0, .int .i16 0], ud := .struct #[{ name := "From", type := 37, offset := 0, embedded := false, tag := "", pkgPath := "", byteOffset := 0 }, { name := "To", type := 37, offset := 1, embedded := false, tag := "", pkgPath := "", byteOffset := 2 }] }
theorem ty38 : TyOk Try.prog 38 ti38 := ⟨by kernel_rfl, by kernel_rfl⟩
def ti39 : TI := { sz := 2, by' := 4, zero := [.int .i16 0, .int .i16 0], ud := .struct #[{ name := "From", type := 37, offset := 0, embedded := false, tag := "", pkgPath := "", byteOffset := 0 }, { name := "To", type := 37, offset := 1, embedded := false, tag := "", pkgPath := "", byteOffset := 2 }] }
theorem ty39 : TyOk Try.prog 39 ti39 := ⟨by kernel_rfl, by kernel_rfl⟩
def ti41 : TI := { sz := 1, by' := 8, zero := [.nilFunc], ud := .func #[27, 27] #[39, 2] false }
theorem ty41 : TyOk Try.prog 41 ti41 := ⟨by kernel_rfl, by kernel_rfl⟩
def ti42 : TI := { sz := 1, by' := 8, zero := [.nilFunc], ud := .func #[39, 39] #[4] false }
theorem ty42 : TyOk Try.prog 42 ti42 := ⟨by kernel_rfl, by kernel_rfl⟩
def ti43 : TI := { sz := 1, by' := 24, zero := [.slice none 0 0], ud := .slice 133 }
theorem ty43 : TyOk Try.prog 43 ti43 := ⟨by kernel_rfl, by kernel_rfl⟩
def ti44 : TI := { sz := 2, by' := 32, zero := [.int .i16 0, .slice none 0 0], ud := .struct #[{ name := "Places", type := 37, offset := 0, embedded := false, tag := "", pkgPath := "", byteOffset := 0 }, { name := "Books", type := 43, offset := 1, embedded := false, tag := "", pkgPath := "", byteOffset := 8 }] }
theorem ty44 : TyOk Try.prog 44 ti44 := ⟨by kernel_rfl, by kernel_rfl⟩
def ti45 : TI := { sz := 2, by' := 32, zero := [.int .i16 0, .slice none 0 0], ud := .struct #[{ name := "Places", type := 37, offset := 0, embedded := false, tag := "", pkgPath := "", byteOffset := 0 }, { name := "Books", type := 43, offset := 1, embedded := false, tag := "", pkgPath := "", byteOffset := 8 }] }
theorem ty45 : TyOk Try.prog 45 ti45 := ⟨by kernel_rfl, by kernel_rfl⟩
def ti46 : TI := { sz := 1, by' := 8, zero := [.nilFunc], ud := .func #[45, 3] #[3] false }
theorem ty46 : TyOk Try.prog 46 ti46 := ⟨by kernel_rfl, by kernel_rfl⟩
def ti47 : TI := { sz := 1, by' := 24, zero := [.slice none 0 0], ud := .slice 86 }
theorem ty47 : TyOk Try.prog 47 ti47 := ⟨by kernel_rfl, by kernel_rfl⟩
def ti48 : TI := { sz := 2, by' := 32, zero := [.int .i16 0, .slice none 0 0], ud := .struct #[{ name := "Places", type := 37, offset := 0, embedded := false, tag := "", pkgPath := "", byteOffset := 0 }, { name := "Books", type := 47, offset := 1, embedded := false, tag := "", pkgPath := "", byteOffset := 8 }] }
theorem ty48 : TyOk Try.prog 48 ti48 := ⟨by kernel_rfl, by kernel_rfl⟩
def ti49 : TI := { sz := 2, by' := 32, zero := [.int .i16 0, .slice none 0 0], ud := .struct #[{ name := "Places", type := 37, offset := 0, embedded := false, tag := "", pkgPath := "", byteOffset := 0 }, { name := "Books", type := 47, offset := 1, embedded := false, tag := "", pkgPath := "", byteOffset := 8 }] }
theorem ty49 : TyOk Try.prog 49 ti49 := ⟨by kernel_rfl, by kernel_rfl⟩
def ti51 : TI := { sz := 1, by' := 8, zero := [.nilFunc], ud := .func #[49, 2] #[49, 2] false }
theorem ty51 : TyOk Try.prog 51 ti51 := ⟨by kernel_rfl, by kernel_rfl⟩
def ti52 : TI := { sz := 1, by' := 8, zero := [.nilFunc], ud := .func #[45] #[49] false }
theorem ty52 : TyOk Try.prog 52 ti52 := ⟨by kernel_rfl, by kernel_rfl⟩
def ti53 : TI := { sz := 1, by' := 8, zero := [.nilFunc], ud := .func #[49, 49] #[4] false }
theorem ty53 : TyOk Try.prog 53 ti53 := ⟨by kernel_rfl, by kernel_rfl⟩
def ti54 : TI := { sz := 1, by' := 8, zero := [.nilFunc], ud := .func #[49, 3] #[3] false }
theorem ty54 : TyOk Try.prog 54 ti54 := ⟨by kernel_rfl, by kernel_rfl⟩
def ti55 : TI := { sz := 1, by' := 8, zero := [.nilFunc], ud := .func #[45, 2] #[4] false }
theorem ty55 : TyOk Try.prog 55 ti55 := ⟨by kernel_rfl, by kernel_rfl⟩
def ti56 : TI := { sz := 3, by' := 3, zero := [.int .u8 0, .int .u8 0, .int .u8 0], ud := .array 3 5 }
theorem ty56 : TyOk Try.prog 56 ti56 := ⟨by kernel_rfl, by kernel_rfl⟩
def ti57 : TI := { sz := 8, by' := 14, zero := [.int .i16 0, .int .u8 0, .int .u8 0, .int .u8 0, .int .i16 0, .int .i16 0, .int .i16 0, .int .i16 0], ud := .struct #[{ name := "Class", type := 37, offset := 0, embedded := false, tag := "", pkgPath := "", byteOffset := 0 }, { name := "Mark", type := 56, offset := 1, embedded := false, tag := "", pkgPath := "", byteOffset := 2 }, { name := "Volume", type := 37, offset := 4, embedded := false, tag := "", pkgPath := "", byteOffset := 6 }, { name := "Wide", type := 37, offset := 5, embedded := false, tag := "", pkgPath := "", byteOffset := 8 }, { name := "High", type := 37, offset := 6, embedded := false, tag := "", pkgPath := "", byteOffset := 10 }, { name := "Weight", type := 37, offset := 7, embedded := false, tag := "", pkgPath := "", byteOffset := 12 }] }
theorem ty57 : TyOk Try.prog 57 ti57 := ⟨by kernel_rfl, by kernel_rfl⟩
def ti58 : TI := { sz := 8, by' := 14, zero := [.int .i16 0, .int .u8 0, .int .u8 0, .int .u8 0, .int .i16 0, .int .i16 0, .int .i16 0, .int .i16 0], ud := .struct #[{ name := "Class", type := 37, offset := 0, embedded := false, tag := "", pkgPath := "", byteOffset := 0 }, { name := "Mark", type := 56, offset := 1, embedded := false, tag := "", pkgPath := "", byteOffset := 2 }, { name := "Volume", type := 37, offset := 4, embedded := false, tag := "", pkgPath := "", byteOffset := 6 }, { name := "Wide", type := 37, offset := 5, embedded := false, tag := "", pkgPath := "", byteOffset := 8 }, { name := "High", type := 37, offset := 6, embedded := false, tag := "", pkgPath := "", byteOffset := 10 }, { name := "Weight", type := 37, offset := 7, embedded := false, tag := "", pkgPath := "", byteOffset := 12 }] }
theorem ty58 : TyOk Try.prog 58 ti58 := ⟨by kernel_rfl, by kernel_rfl⟩
def ti60 : TI := { sz := 1, by' := 8, zero := [.nilFunc], ud := .func #[49, 61] #[49, 2, 2] false }
theorem ty60 : TyOk Try.prog 60 ti60 := ⟨by kernel_rfl, by kernel_rfl⟩
def ti61 : TI := { sz := 8, by' := 14, zero := [.int .i16 0, .int .u8 0, .int .u8 0, .int .u8 0, .int .i16 0, .int .i16 0, .int .i16 0, .int .i16 0], ud := .struct #[{ name := "Class", type := 37, offset := 0, embedded := false, tag := "", pkgPath := "", byteOffset := 0 }, { name := "Mark", type := 56, offset := 1, embedded := false, tag := "", pkgPath := "", byteOffset := 2 }, { name := "Volume", type := 37, offset := 4, embedded := false, tag := "", pkgPath := "", byteOffset := 6 }, { name := "Wide", type := 37, offset := 5, embedded := false, tag := "", pkgPath := "", byteOffset := 8 }, { name := "High", type := 37, offset := 6, embedded := false, tag := "", pkgPath := "", byteOffset := 10 }, { name := "Weight", type := 37, offset := 7, embedded := false, tag := "", pkgPath := "", byteOffset := 12 }] }
theorem ty61 : TyOk Try.prog 61 ti61 := ⟨by kernel_rfl, by kernel_rfl⟩
def ti62 : TI := { sz := 1, by' := 8, zero := [.nilFunc], ud := .func #[58] #[61] false }
theorem ty62 : TyOk Try.prog 62 ti62 := ⟨by kernel_rfl, by kernel_rfl⟩
def ti63 : TI := { sz := 1, by' := 8, zero := [.nilFunc], ud := .func #[45, 58] #[4] false }
theorem ty63 : TyOk Try.prog 63 ti63 := ⟨by kernel_rfl, by kernel_rfl⟩
def ti64 : TI := { sz := 1, by' := 8, zero := [.nilFunc], ud := .func #[49, 27] #[49, 2, 2] false }
theorem ty64 : TyOk Try.prog 64 ti64 := ⟨by kernel_rfl, by kernel_rfl⟩
def ti65 : TI := { sz := 1, by' := 8, zero := [.nilFunc], ud := .func #[45, 22] #[4] false }
theorem ty65 : TyOk Try.prog 65 ti65 := ⟨by kernel_rfl, by kernel_rfl⟩
def ti67 : TI := { sz := 1, by' := 8, zero := [.nilFunc], ud := .func #[24, 2] #[24, 2, 2] false }
theorem ty67 : TyOk Try.prog 67 ti67 := ⟨by kernel_rfl, by kernel_rfl⟩
def ti68 : TI := { sz := 1, by' := 8, zero := [.nilFunc], ud := .func #[24] #[24] false }
theorem ty68 : TyOk Try.prog 68 ti68 := ⟨by kernel_rfl, by kernel_rfl⟩
def ti69 : TI := { sz := 1, by' := 8, zero := [.nilFunc], ud := .func #[24, 2] #[4] false }
theorem ty69 : TyOk Try.prog 69 ti69 := ⟨by kernel_rfl, by kernel_rfl⟩
def ti70 : TI := { sz := 1, by' := 8, zero := [.nilFunc], ud := .func #[27] #[4] false }
theorem ty70 : TyOk Try.prog 70 ti70 := ⟨by kernel_rfl, by kernel_rfl⟩
def ti71 : TI := { sz := 1, by' := 8, zero := [.nilFunc], ud := .func #[27] #[24] false }
theorem ty71 : TyOk Try.prog 71 ti71 := ⟨by kernel_rfl, by kernel_rfl⟩
def ti72 : TI := { sz := 1, by' := 8, zero := [.nilFunc], ud := .func #[61, 61] #[4] false }
theorem ty72 : TyOk Try.prog 72 ti72 := ⟨by kernel_rfl, by kernel_rfl⟩
def ti73 : TI := { sz := 1, by' := 8, zero := [.nilFunc], ud := .func #[27, 27] #[2] false }
theorem ty73 : TyOk Try.prog 73 ti73 := ⟨by kernel_rfl, by kernel_rfl⟩
def ti74 : TI := { sz := 1, by' := 8, zero := [.nilFunc], ud := .func #[27] #[2, 2] false }
theorem ty74 : TyOk Try.prog 74 ti74 := ⟨by kernel_rfl, by kernel_rfl⟩
def ti75 : TI := { sz := 1, by' := 8, zero := [.nilFunc], ud := .func #[27, 39] #[27] false }
theorem ty75 : TyOk Try.prog 75 ti75 := ⟨by kernel_rfl, by kernel_rfl⟩
def ti76 : TI := { sz := 1, by' := 8, zero := [.nilFunc], ud := .func #[27, 27, 77, 80] #[39, 2] false }
theorem ty76 : TyOk Try.prog 76 ti76 := ⟨by kernel_rfl, by kernel_rfl⟩
def ti77 : TI := { sz := 1, by' := 8, zero := [.nilFunc], ud := .func #[3] #[3] false }
theorem ty77 : TyOk Try.prog 77 ti77 := ⟨by kernel_rfl, by kernel_rfl⟩
def ti79 : TI := { sz := 1, by' := 8, zero := [.nilFunc], ud := .func #[27, 39] #[27, 4] false }
theorem ty79 : TyOk Try.prog 79 ti79 := ⟨by kernel_rfl, by kernel_rfl⟩
def ti80 : TI := { sz := 1, by' := 8, zero := [.nilFunc], ud := .func #[39] #[27] false }
theorem ty80 : TyOk Try.prog 80 ti80 := ⟨by kernel_rfl, by kernel_rfl⟩
def ti81 : TI := { sz := 1, by' := 8, zero := [.nilFunc], ud := .func #[43, 3] #[3] false }
theorem ty81 : TyOk Try.prog 81 ti81 := ⟨by kernel_rfl, by kernel_rfl⟩
def ti82 : TI := { sz := 1, by' := 8, zero := [.nilFunc], ud := .func #[83] #[4] false }
theorem ty82 : TyOk Try.prog 82 ti82 := ⟨by kernel_rfl, by kernel_rfl⟩
def ti83 : TI := { sz := 1, by' := 8, zero := [.pointer none], ud := .pointer 49 }
theorem ty83 : TyOk Try.prog 83 ti83 := ⟨by kernel_rfl, by kernel_rfl⟩
def ti84 : TI := { sz := 1, by' := 8, zero := [.nilFunc], ud := .func #[2, 2, 2] #[4] false }
theorem ty84 : TyOk Try.prog 84 ti84 := ⟨by kernel_rfl, by kernel_rfl⟩
def ti85 : TI := { sz := 9, by' := 16, zero := [.int .i16 0, .int .i16 0, .int .u8 0, .int .u8 0, .int .u8 0, .int .i16 0, .int .i16 0, .int .i16 0, .int .i16 0], ud := .struct #[{ name := "At", type := 37, offset := 0, embedded := false, tag := "", pkgPath := "", byteOffset := 0 }, { name := "Book", type := 61, offset := 1, embedded := false, tag := "", pkgPath := "", byteOffset := 2 }] }
theorem ty85 : TyOk Try.prog 85 ti85 := ⟨by kernel_rfl, by kernel_rfl⟩
def ti86 : TI := { sz := 9, by' := 16, zero := [.int .i16 0, .int .i16 0, .int .u8 0, .int .u8 0, .int .u8 0, .int .i16 0, .int .i16 0, .int .i16 0, .int .i16 0], ud := .struct #[{ name := "At", type := 37, offset := 0, embedded := false, tag := "", pkgPath := "", byteOffset := 0 }, { name := "Book", type := 61, offset := 1, embedded := false, tag := "", pkgPath := "", byteOffset := 2 }] }
theorem ty86 : TyOk Try.prog 86 ti86 := ⟨by kernel_rfl, by kernel_rfl⟩
def ti87 : TI := { sz := 1, by' := 8, zero := [.nilFunc], ud := .func #[43] #[47] false }
theorem ty87 : TyOk Try.prog 87 ti87 := ⟨by kernel_rfl, by kernel_rfl⟩
def ti88 : TI := { sz := 1, by' := 8, zero := [.nilFunc], ud := .func #[49] #[4] false }
theorem ty88 : TyOk Try.prog 88 ti88 := ⟨by kernel_rfl, by kernel_rfl⟩
def ti89 : TI := { sz := 1, by' := 24, zero := [.slice none 0 0], ud := .slice 4 }
theorem ty89 : TyOk Try.prog 89 ti89 := ⟨by kernel_rfl, by kernel_rfl⟩
def ti90 : TI := { sz := 1, by' := 8, zero := [.nilFunc], ud := .func #[] #[89] false }
theorem ty90 : TyOk Try.prog 90 ti90 := ⟨by kernel_rfl, by kernel_rfl⟩
def ti91 : TI := { sz := 1, by' := 8, zero := [.nilFunc], ud := .func #[] #[49] false }
theorem ty91 : TyOk Try.prog 91 ti91 := ⟨by kernel_rfl, by kernel_rfl⟩
def ti92 : TI := { sz := 1, by' := 8, zero := [.nilFunc], ud := .func #[47, 94] #[47] false }
theorem ty92 : TyOk Try.prog 92 ti92 := ⟨by kernel_rfl, by kernel_rfl⟩
def ti93 : TI := { sz := 1, by' := 8, zero := [.nilFunc], ud := .func #[86] #[2] false }
theorem ty93 : TyOk Try.prog 93 ti93 := ⟨by kernel_rfl, by kernel_rfl⟩
def ti94 : TI := { sz := 1, by' := 8, zero := [.nilFunc], ud := .func #[86] #[4] false }
theorem ty94 : TyOk Try.prog 94 ti94 := ⟨by kernel_rfl, by kernel_rfl⟩
def ti95 : TI := { sz := 1, by' := 8, zero := [.nilFunc], ud := .func #[47, 47] #[4] false }
theorem ty95 : TyOk Try.prog 95 ti95 := ⟨by kernel_rfl, by kernel_rfl⟩
def ti96 : TI := { sz := 1, by' := 8, zero := [.nilFunc], ud := .func #[47, 3] #[3] false }
theorem ty96 : TyOk Try.prog 96 ti96 := ⟨by kernel_rfl, by kernel_rfl⟩
def ti97 : TI := { sz := 1, by' := 8, zero := [.nilFunc], ud := .func #[98] #[4] false }
theorem ty97 : TyOk Try.prog 97 ti97 := ⟨by kernel_rfl, by kernel_rfl⟩
def ti98 : TI := { sz := 1, by' := 8, zero := [.pointer none], ud := .pointer 61 }
theorem ty98 : TyOk Try.prog 98 ti98 := ⟨by kernel_rfl, by kernel_rfl⟩
def ti100 : TI := { sz := 1, by' := 8, zero := [.nilFunc], ud := .func #[83, 98] #[49, 2, 4] false }
theorem ty100 : TyOk Try.prog 100 ti100 := ⟨by kernel_rfl, by kernel_rfl⟩
def ti101 : TI := { sz := 1, by' := 8, zero := [.nilFunc], ud := .func #[56] #[56] false }
theorem ty101 : TyOk Try.prog 101 ti101 := ⟨by kernel_rfl, by kernel_rfl⟩
def ti102 : TI := { sz := 1, by' := 8, zero := [.nilFunc], ud := .func #[61] #[4] false }
theorem ty102 : TyOk Try.prog 102 ti102 := ⟨by kernel_rfl, by kernel_rfl⟩
def ti103 : TI := { sz := 1, by' := 8, zero := [.nilFunc], ud := .func #[] #[4] false }
theorem ty103 : TyOk Try.prog 103 ti103 := ⟨by kernel_rfl, by kernel_rfl⟩
def ti104 : TI := { sz := 1, by' := 8, zero := [.nilFunc], ud := .func #[61] #[49, 2] false }
theorem ty104 : TyOk Try.prog 104 ti104 := ⟨by kernel_rfl, by kernel_rfl⟩
def ti105 : TI := { sz := 1, by' := 8, zero := [.nilFunc], ud := .func #[24, 2] #[2] false }
theorem ty105 : TyOk Try.prog 105 ti105 := ⟨by kernel_rfl, by kernel_rfl⟩
def ti106 : TI := { sz := 1, by' := 8, zero := [.nilFunc], ud := .func #[2, 2] #[2] false }
theorem ty106 : TyOk Try.prog 106 ti106 := ⟨by kernel_rfl, by kernel_rfl⟩
def ti107 : TI := { sz := 1, by' := 8, zero := [.nilFunc], ud := .func #[109] #[24] false }
theorem ty107 : TyOk Try.prog 107 ti107 := ⟨by kernel_rfl, by kernel_rfl⟩
def ti108 : TI := { sz := 1, by' := 8, zero := [.nilFunc], ud := .func #[112] #[] false }
theorem ty108 : TyOk Try.prog 108 ti108 := ⟨by kernel_rfl, by kernel_rfl⟩
def ti109 : TI := { sz := 1, by' := 8, zero := [.nilFunc], ud := .func #[112] #[] false }
theorem ty109 : TyOk Try.prog 109 ti109 := ⟨by kernel_rfl, by kernel_rfl⟩
def ti110 : TI := { sz := 1, by' := 8, zero := [.nilFunc], ud := .func #[24] #[109] false }
theorem ty110 : TyOk Try.prog 110 ti110 := ⟨by kernel_rfl, by kernel_rfl⟩
def ti111 : TI := { sz := 1, by' := 8, zero := [.nilFunc], ud := .func #[24, 112] #[3] false }
theorem ty111 : TyOk Try.prog 111 ti111 := ⟨by kernel_rfl, by kernel_rfl⟩
def ti112 : TI := { sz := 1, by' := 8, zero := [.nilFunc], ud := .func #[2] #[4] false }
theorem ty112 : TyOk Try.prog 112 ti112 := ⟨by kernel_rfl, by kernel_rfl⟩
def ti113 : TI := { sz := 1, by' := 8, zero := [.nilFunc], ud := .func #[24] #[] false }
theorem ty113 : TyOk Try.prog 113 ti113 := ⟨by kernel_rfl, by kernel_rfl⟩
def ti114 : TI := { sz := 1, by' := 8, zero := [.nilFunc], ud := .func #[2, 2] #[3] false }
theorem ty114 : TyOk Try.prog 114 ti114 := ⟨by kernel_rfl, by kernel_rfl⟩
def ti115 : TI := { sz := 1, by' := 8, zero := [.nilFunc], ud := .func #[24, 24] #[3] false }
theorem ty115 : TyOk Try.prog 115 ti115 := ⟨by kernel_rfl, by kernel_rfl⟩
def ti116 : TI := { sz := 1, by' := 8, zero := [.nilFunc], ud := .func #[27, 102] #[4] false }
theorem ty116 : TyOk Try.prog 116 ti116 := ⟨by kernel_rfl, by kernel_rfl⟩
def ti117 : TI := { sz := 1, by' := 24, zero := [.slice none 0 0], ud := .slice 3 }
theorem ty117 : TyOk Try.prog 117 ti117 := ⟨by kernel_rfl, by kernel_rfl⟩
def ti118 : TI := { sz := 1, by' := 8, zero := [.nilFunc], ud := .func #[27] #[117] false }
theorem ty118 : TyOk Try.prog 118 ti118 := ⟨by kernel_rfl, by kernel_rfl⟩
def ti119 : TI := { sz := 1, by' := 8, zero := [.nilFunc], ud := .func #[117, 124] #[24] false }
theorem ty119 : TyOk Try.prog 119 ti119 := ⟨by kernel_rfl, by kernel_rfl⟩
def ti120 : TI := { sz := 1, by' := 8, zero := [.nilFunc], ud := .func #[117, 123] #[117] false }
theorem ty120 : TyOk Try.prog 120 ti120 := ⟨by kernel_rfl, by kernel_rfl⟩
def ti121 : TI := { sz := 1, by' := 8, zero := [.nilFunc], ud := .func #[3] #[117] false }
theorem ty121 : TyOk Try.prog 121 ti121 := ⟨by kernel_rfl, by kernel_rfl⟩
def ti122 : TI := { sz := 1, by' := 8, zero := [.nilFunc], ud := .func #[117, 3] #[4] false }
theorem ty122 : TyOk Try.prog 122 ti122 := ⟨by kernel_rfl, by kernel_rfl⟩
def ti123 : TI := { sz := 1, by' := 8, zero := [.nilFunc], ud := .func #[3] #[4] false }
theorem ty123 : TyOk Try.prog 123 ti123 := ⟨by kernel_rfl, by kernel_rfl⟩
def ti124 : TI := { sz := 1, by' := 8, zero := [.nilFunc], ud := .func #[3] #[2] false }
theorem ty124 : TyOk Try.prog 124 ti124 := ⟨by kernel_rfl, by kernel_rfl⟩
def ti125 : TI := { sz := 1, by' := 8, zero := [.nilFunc], ud := .func #[56, 56] #[4] false }
theorem ty125 : TyOk Try.prog 125 ti125 := ⟨by kernel_rfl, by kernel_rfl⟩
def ti126 : TI := { sz := 1, by' := 8, zero := [.nilFunc], ud := .func #[27, 128] #[27] false }
theorem ty126 : TyOk Try.prog 126 ti126 := ⟨by kernel_rfl, by kernel_rfl⟩
def ti127 : TI := { sz := 3, by' := 6, zero := [.int .i16 0, .int .i16 0, .int .i16 0], ud := .struct #[{ name := "From", type := 37, offset := 0, embedded := false, tag := "", pkgPath := "", byteOffset := 0 }, { name := "Count", type := 37, offset := 1, embedded := false, tag := "", pkgPath := "", byteOffset := 2 }, { name := "To", type := 37, offset := 2, embedded := false, tag := "", pkgPath := "", byteOffset := 4 }] }
theorem ty127 : TyOk Try.prog 127 ti127 := ⟨by kernel_rfl, by kernel_rfl⟩
def ti128 : TI := { sz := 3, by' := 6, zero := [.int .i16 0, .int .i16 0, .int .i16 0], ud := .struct #[{ name := "From", type := 37, offset := 0, embedded := false, tag := "", pkgPath := "", byteOffset := 0 }, { name := "Count", type := 37, offset := 1, embedded := false, tag := "", pkgPath := "", byteOffset := 2 }, { name := "To", type := 37, offset := 2, embedded := false, tag := "", pkgPath := "", byteOffset := 4 }] }
theorem ty128 : TyOk Try.prog 128 ti128 := ⟨by kernel_rfl, by kernel_rfl⟩
def ti129 : TI := { sz := 1, by' := 8, zero := [.nilFunc], ud := .func #[27, 128] #[27, 4] false }
theorem ty129 : TyOk Try.prog 129 ti129 := ⟨by kernel_rfl, by kernel_rfl⟩
def ti130 : TI := { sz := 1, by' := 8, zero := [.nilFunc], ud := .func #[98, 98] #[2] false }
theorem ty130 : TyOk Try.prog 130 ti130 := ⟨by kernel_rfl, by kernel_rfl⟩
def ti131 : TI := { sz := 1, by' := 8, zero := [.nilFunc], ud := .func #[133] #[86] false }
theorem ty131 : TyOk Try.prog 131 ti131 := ⟨by kernel_rfl, by kernel_rfl⟩
def ti132 : TI := { sz := 9, by' := 16, zero := [.int .i16 0, .int .i16 0, .int .u8 0, .int .u8 0, .int .u8 0, .int .i16 0, .int .i16 0, .int .i16 0, .int .i16 0], ud := .struct #[{ name := "At", type := 37, offset := 0, embedded := false, tag := "", pkgPath := "", byteOffset := 0 }, { name := "Book", type := 58, offset := 1, embedded := false, tag := "", pkgPath := "", byteOffset := 2 }] }
theorem ty132 : TyOk Try.prog 132 ti132 := ⟨by kernel_rfl, by kernel_rfl⟩
def ti133 : TI := { sz := 9, by' := 16, zero := [.int .i16 0, .int .i16 0, .int .u8 0, .int .u8 0, .int .u8 0, .int .i16 0, .int .i16 0, .int .i16 0, .int .i16 0], ud := .struct #[{ name := "At", type := 37, offset := 0, embedded := false, tag := "", pkgPath := "", byteOffset := 0 }, { name := "Book", type := 58, offset := 1, embedded := false, tag := "", pkgPath := "", byteOffset := 2 }] }
theorem ty133 : TyOk Try.prog 133 ti133 := ⟨by kernel_rfl, by kernel_rfl⟩
def ti134 : TI := { sz := 1, by' := 8, zero := [.nilFunc], ud := .func #[37, 37, 37] #[4] false }
theorem ty134 : TyOk Try.prog 134 ti134 := ⟨by kernel_rfl, by kernel_rfl⟩
def ti135 : TI := { sz := 1, by' := 8, zero := [.nilFunc], ud := .func #[24] #[4] false }
theorem ty135 : TyOk Try.prog 135 ti135 := ⟨by kernel_rfl, by kernel_rfl⟩
def ti136 : TI := { sz := 1, by' := 8, zero := [.nilFunc], ud := .func #[47, 93] #[24] false }
theorem ty136 : TyOk Try.prog 136 ti136 := ⟨by kernel_rfl, by kernel_rfl⟩
def ti137 : TI := { sz := 1, by' := 8, zero := [.nilFunc], ud := .func #[47, 94] #[4] false }
theorem ty137 : TyOk Try.prog 137 ti137 := ⟨by kernel_rfl, by kernel_rfl⟩
def ti138 : TI := { sz := 1, by' := 8, zero := [.nilFunc], ud := .func #[] #[27] false }
theorem ty138 : TyOk Try.prog 138 ti138 := ⟨by kernel_rfl, by kernel_rfl⟩
def ti139 : TI := { sz := 1, by' := 8, zero := [.nilFunc], ud := .func #[47] #[47] false }
theorem ty139 : TyOk Try.prog 139 ti139 := ⟨by kernel_rfl, by kernel_rfl⟩
def ti140 : TI := { sz := 1, by' := 8, zero := [.nilFunc], ud := .func #[47, 94] #[3] false }
theorem ty140 : TyOk Try.prog 140 ti140 := ⟨by kernel_rfl, by kernel_rfl⟩
def ti141 : TI := { sz := 1, by' := 8, zero := [.nilFunc], ud := .func #[86, 86] #[4] false }
theorem ty141 : TyOk Try.prog 141 ti141 := ⟨by kernel_rfl, by kernel_rfl⟩
def ti142 : TI := { sz := 1, by' := 8, zero := [.nilFunc], ud := .func #[56] #[4] false }
theorem ty142 : TyOk Try.prog 142 ti142 := ⟨by kernel_rfl, by kernel_rfl⟩
def ti143 : TI := { sz := 1, by' := 8, zero := [.nilFunc], ud := .func #[83, 98] #[2] false }
theorem ty143 : TyOk Try.prog 143 ti143 := ⟨by kernel_rfl, by kernel_rfl⟩
def ti144 : TI := { sz := 1, by' := 8, zero := [.nilFunc], ud := .func #[83, 2] #[2, 2] false }
theorem ty144 : TyOk Try.prog 144 ti144 := ⟨by kernel_rfl, by kernel_rfl⟩
def ti145 : TI := { sz := 1, by' := 8, zero := [.nilFunc], ud := .func #[146, 147] #[4] false }
theorem ty145 : TyOk Try.prog 145 ti145 := ⟨by kernel_rfl, by kernel_rfl⟩
def ti146 : TI := { sz := 1, by' := 24, zero := [.slice none 0 0], ud := .slice 5 }
theorem ty146 : TyOk Try.prog 146 ti146 := ⟨by kernel_rfl, by kernel_rfl⟩
def ti147 : TI := { sz := 1, by' := 8, zero := [.nilFunc], ud := .func #[5] #[4] false }
theorem ty147 : TyOk Try.prog 147 ti147 := ⟨by kernel_rfl, by kernel_rfl⟩
def ti148 : TI := { sz := 1, by' := 8, zero := [.nilFunc], ud := .func #[61] #[3] false }
theorem ty148 : TyOk Try.prog 148 ti148 := ⟨by kernel_rfl, by kernel_rfl⟩
def ti149 : TI := { sz := 1, by' := 8, zero := [.nilFunc], ud := .func #[3] #[2, 2] false }
theorem ty149 : TyOk Try.prog 149 ti149 := ⟨by kernel_rfl, by kernel_rfl⟩
def ti151 : TI := { sz := 1, by' := 8, zero := [.nilFunc], ud := .func #[3] #[2, 4] false }
theorem ty151 : TyOk Try.prog 151 ti151 := ⟨by kernel_rfl, by kernel_rfl⟩
def ti152 : TI := { sz := 1, by' := 8, zero := [.nilFunc], ud := .func #[47, 3, 47] #[47] true }
theorem ty152 : TyOk Try.prog 152 ti152 := ⟨by kernel_rfl, by kernel_rfl⟩
def ti153 : TI := { sz := 1, by' := 8, zero := [.nilFunc], ud := .func #[24, 112] #[4] false }
theorem ty153 : TyOk Try.prog 153 ti153 := ⟨by kernel_rfl, by kernel_rfl⟩
def ti154 : TI := { sz := 1, by' := 8, zero := [.nilFunc], ud := .func #[61, 61] #[3] false }
theorem ty154 : TyOk Try.prog 154 ti154 := ⟨by kernel_rfl, by kernel_rfl⟩
def ti155 : TI := { sz := 1, by' := 8, zero := [.nilFunc], ud := .func #[117] #[3] false }
theorem ty155 : TyOk Try.prog 155 ti155 := ⟨by kernel_rfl, by kernel_rfl⟩
def ti156 : TI := { sz := 1, by' := 8, zero := [.nilFunc], ud := .func #[117, 123] #[3] false }
theorem ty156 : TyOk Try.prog 156 ti156 := ⟨by kernel_rfl, by kernel_rfl⟩
def ti157 : TI := { sz := 1, by' := 8, zero := [.nilFunc], ud := .func #[117, 3] #[3] false }
theorem ty157 : TyOk Try.prog 157 ti157 := ⟨by kernel_rfl, by kernel_rfl⟩
def ti158 : TI := { sz := 1, by' := 8, zero := [.nilFunc], ud := .func #[27] #[2] false }
theorem ty158 : TyOk Try.prog 158 ti158 := ⟨by kernel_rfl, by kernel_rfl⟩
def ti159 : TI := { sz := 1, by' := 8, zero := [.nilFunc], ud := .func #[27, 27] #[27] false }
theorem ty159 : TyOk Try.prog 159 ti159 := ⟨by kernel_rfl, by kernel_rfl⟩
def ti160 : TI := { sz := 1, by' := 8, zero := [.nilFunc], ud := .func #[3, 3, 3] #[4] false }
theorem ty160 : TyOk Try.prog 160 ti160 := ⟨by kernel_rfl, by kernel_rfl⟩
def ti161 : TI := { sz := 1, by' := 8, zero := [.nilFunc], ud := .func #[27] #[27] false }
theorem ty161 : TyOk Try.prog 161 ti161 := ⟨by kernel_rfl, by kernel_rfl⟩
def ti162 : TI := { sz := 1, by' := 8, zero := [.nilFunc], ud := .func #[27, 3, 27] #[27] true }
theorem ty162 : TyOk Try.prog 162 ti162 := ⟨by kernel_rfl, by kernel_rfl⟩
def ti163 : TI := { sz := 1, by' := 8, zero := [.nilFunc], ud := .func #[27, 3, 3] #[27] false }
theorem ty163 : TyOk Try.prog 163 ti163 := ⟨by kernel_rfl, by kernel_rfl⟩
def ti164 : TI := { sz := 1, by' := 8, zero := [.nilFunc], ud := .func #[166, 98, 98] #[2] false }
theorem ty164 : TyOk Try.prog 164 ti164 := ⟨by kernel_rfl, by kernel_rfl⟩
def ti165 : TI := { sz := 1, by' := 1, zero := [.int .i8 0], ud := .int .i8 }
theorem ty165 : TyOk Try.prog 165 ti165 := ⟨by kernel_rfl, by kernel_rfl⟩
def ti166 : TI := { sz := 1, by' := 24, zero := [.slice none 0 0], ud := .slice 165 }
theorem ty166 : TyOk Try.prog 166 ti166 := ⟨by kernel_rfl, by kernel_rfl⟩
def ti167 : TI := { sz := 1, by' := 8, zero := [.nilFunc], ud := .func #[27, 154] #[4] false }
theorem ty167 : TyOk Try.prog 167 ti167 := ⟨by kernel_rfl, by kernel_rfl⟩
def ti168 : TI := { sz := 1, by' := 8, zero := [.nilFunc], ud := .func #[47, 169] #[27] false }
theorem ty168 : TyOk Try.prog 168 ti168 := ⟨by kernel_rfl, by kernel_rfl⟩
def ti169 : TI := { sz := 1, by' := 8, zero := [.nilFunc], ud := .func #[86] #[61] false }
theorem ty169 : TyOk Try.prog 169 ti169 := ⟨by kernel_rfl, by kernel_rfl⟩
def ti170 : TI := { sz := 1, by' := 8, zero := [.nilFunc], ud := .func #[27, 98] #[2] false }
theorem ty170 : TyOk Try.prog 170 ti170 := ⟨by kernel_rfl, by kernel_rfl⟩
def ti171 : TI := { sz := 1, by' := 8, zero := [.nilFunc], ud := .func #[83] #[27] false }
theorem ty171 : TyOk Try.prog 171 ti171 := ⟨by kernel_rfl, by kernel_rfl⟩
def ti172 : TI := { sz := 1, by' := 8, zero := [.nilFunc], ud := .func #[89, 2, 2] #[2, 4] false }
theorem ty172 : TyOk Try.prog 172 ti172 := ⟨by kernel_rfl, by kernel_rfl⟩
def ti173 : TI := { sz := 1, by' := 8, zero := [.nilFunc], ud := .func #[47, 3] #[] false }
theorem ty173 : TyOk Try.prog 173 ti173 := ⟨by kernel_rfl, by kernel_rfl⟩
def ti174 : TI := { sz := 1, by' := 8, zero := [.nilFunc], ud := .func #[24, 109] #[24] false }
theorem ty174 : TyOk Try.prog 174 ti174 := ⟨by kernel_rfl, by kernel_rfl⟩
def ti175 : TI := { sz := 1, by' := 8, zero := [.nilFunc], ud := .func #[24, 3, 3, 3] #[] false }
theorem ty175 : TyOk Try.prog 175 ti175 := ⟨by kernel_rfl, by kernel_rfl⟩
def ti176 : TI := { sz := 1, by' := 8, zero := [.nilFunc], ud := .func #[177] #[3] false }
theorem ty176 : TyOk Try.prog 176 ti176 := ⟨by kernel_rfl, by kernel_rfl⟩
def ti177 : TI := { sz := 1, by' := 8, zero := [.int .u64 0], ud := .int .u64 }
theorem ty177 : TyOk Try.prog 177 ti177 := ⟨by kernel_rfl, by kernel_rfl⟩
def ti178 : TI := { sz := 1, by' := 8, zero := [.nilFunc], ud := .func #[27, 102] #[3] false }
theorem ty178 : TyOk Try.prog 178 ti178 := ⟨by kernel_rfl, by kernel_rfl⟩
def ti179 : TI := { sz := 1, by' := 8, zero := [.nilFunc], ud := .func #[166, 61, 61] #[3] false }
theorem ty179 : TyOk Try.prog 179 ti179 := ⟨by kernel_rfl, by kernel_rfl⟩
def ti180 : TI := { sz := 1, by' := 8, zero := [.nilFunc], ud := .func #[] #[166] false }
theorem ty180 : TyOk Try.prog 180 ti180 := ⟨by kernel_rfl, by kernel_rfl⟩
def ti181 : TI := { sz := 1, by' := 8, zero := [.nilFunc], ud := .func #[27, 61] #[3] false }
theorem ty181 : TyOk Try.prog 181 ti181 := ⟨by kernel_rfl, by kernel_rfl⟩
def ti182 : TI := { sz := 1, by' := 8, zero := [.map none], ud := .map 61 3 }
theorem ty182 : TyOk Try.prog 182 ti182 := ⟨by kernel_rfl, by kernel_rfl⟩
def ti183 : TI := { sz := 1, by' := 8, zero := [.nilFunc], ud := .func #[27, 3] #[] false }
theorem ty183 : TyOk Try.prog 183 ti183 := ⟨by kernel_rfl, by kernel_rfl⟩
def ti184 : TI := { sz := 1, by' := 8, zero := [.nilFunc], ud := .func #[165] #[165] false }
theorem ty184 : TyOk Try.prog 184 ti184 := ⟨by kernel_rfl, by kernel_rfl⟩
def ti185 : TI := { sz := 3, by' := 24, zero := [.int .i64 0, .int .i64 0, .int .i64 0], ud := .array 3 2 }
theorem ty185 : TyOk Try.prog 185 ti185 := ⟨by kernel_rfl, by kernel_rfl⟩
def ti186 : TI := { sz := 1, by' := 8, zero := [.nilFunc], ud := .func #[98, 165] #[185] false }
theorem ty186 : TyOk Try.prog 186 ti186 := ⟨by kernel_rfl, by kernel_rfl⟩
def ti187 : TI := { sz := 1, by' := 8, zero := [.nilFunc], ud := .func #[146, 147] #[3] false }
theorem ty187 : TyOk Try.prog 187 ti187 := ⟨by kernel_rfl, by kernel_rfl⟩
def ti188 : TI := { sz := 1, by' := 8, zero := [.nilFunc], ud := .func #[24, 3, 3] #[] false }
theorem ty188 : TyOk Try.prog 188 ti188 := ⟨by kernel_rfl, by kernel_rfl⟩
def ti189 : TI := { sz := 1, by' := 8, zero := [.int .i64 0], ud := .int .i64 }
theorem ty189 : TyOk Try.prog 189 ti189 := ⟨by kernel_rfl, by kernel_rfl⟩
def ti191 : TI := { sz := 1, by' := 8, zero := [.nilFunc], ud := .func #[24, 3, 3] #[3, 189] false }
theorem ty191 : TyOk Try.prog 191 ti191 := ⟨by kernel_rfl, by kernel_rfl⟩
def ti192 : TI := { sz := 1, by' := 8, zero := [.nilFunc], ud := .func #[24, 3, 3] #[4] false }
theorem ty192 : TyOk Try.prog 192 ti192 := ⟨by kernel_rfl, by kernel_rfl⟩
def ti193 : TI := { sz := 1, by' := 8, zero := [.nilFunc], ud := .func #[2, 2] #[4] false }
theorem ty193 : TyOk Try.prog 193 ti193 := ⟨by kernel_rfl, by kernel_rfl⟩
def ti194 : TI := { sz := 1, by' := 8, zero := [.nilFunc], ud := .func #[24, 3, 3, 3] #[3] false }
theorem ty194 : TyOk Try.prog 194 ti194 := ⟨by kernel_rfl, by kernel_rfl⟩
def ti196 : TI := { sz := 1, by' := 8, zero := [.nilFunc], ud := .func #[24, 3, 3, 3] #[3, 4] false }
theorem ty196 : TyOk Try.prog 196 ti196 := ⟨by kernel_rfl, by kernel_rfl⟩
def ti197 : TI := { sz := 1, by' := 8, zero := [.nilFunc], ud := .func #[198] #[3] false }
theorem ty197 : TyOk Try.prog 197 ti197 := ⟨by kernel_rfl, by kernel_rfl⟩
def ti198 : TI := { sz := 1, by' := 4, zero := [.int .u32 0], ud := .int .u32 }
theorem ty198 : TyOk Try.prog 198 ti198 := ⟨by kernel_rfl, by kernel_rfl⟩
def ti199 : TI := { sz := 1, by' := 8, zero := [.nilFunc], ud := .func #[200] #[3] false }
theorem ty199 : TyOk Try.prog 199 ti199 := ⟨by kernel_rfl, by kernel_rfl⟩
def ti200 : TI := { sz := 1, by' := 8, zero := [.int .u64 0], ud := .int .u64 }
theorem ty200 : TyOk Try.prog 200 ti200 := ⟨by kernel_rfl, by kernel_rfl⟩
def ti201 : TI := { sz := 1, by' := 8, zero := [.nilFunc], ud := .func #[165, 61, 61] #[3] false }
theorem ty201 : TyOk Try.prog 201 ti201 := ⟨by kernel_rfl, by kernel_rfl⟩
def ti202 : TI := { sz := 1, by' := 8, zero := [.nilFunc], ud := .func #[47] #[] false }
theorem ty202 : TyOk Try.prog 202 ti202 := ⟨by kernel_rfl, by kernel_rfl⟩
def ti203 : TI := { sz := 1, by' := 8, zero := [.int .u64 0], ud := .int .u64 }
theorem ty203 : TyOk Try.prog 203 ti203 := ⟨by kernel_rfl, by kernel_rfl⟩
def ti204 : TI := { sz := 1, by' := 8, zero := [.nilFunc], ud := .func #[3] #[177] false }
theorem ty204 : TyOk Try.prog 204 ti204 := ⟨by kernel_rfl, by kernel_rfl⟩
def ti205 : TI := { sz := 1, by' := 8, zero := [.nilFunc], ud := .func #[] #[200] false }
theorem ty205 : TyOk Try.prog 205 ti205 := ⟨by kernel_rfl, by kernel_rfl⟩
def ti206 : TI := { sz := 1, by' := 8, zero := [.nilFunc], ud := .func #[24, 3, 207] #[3] false }
theorem ty206 : TyOk Try.prog 206 ti206 := ⟨by kernel_rfl, by kernel_rfl⟩
def ti207 : TI := { sz := 1, by' := 8, zero := [.pointer none], ud := .pointer 3 }
theorem ty207 : TyOk Try.prog 207 ti207 := ⟨by kernel_rfl, by kernel_rfl⟩
def ti208 : TI := { sz := 1, by' := 8, zero := [.nilFunc], ud := .func #[24, 3, 3, 3, 207] #[3] false }
theorem ty208 : TyOk Try.prog 208 ti208 := ⟨by kernel_rfl, by kernel_rfl⟩
def ti209 : TI := { sz := 1, by' := 8, zero := [.nilFunc], ud := .func #[37, 37] #[3] false }
theorem ty209 : TyOk Try.prog 209 ti209 := ⟨by kernel_rfl, by kernel_rfl⟩
def ti210 : TI := { sz := 1, by' := 8, zero := [.nilFunc], ud := .func #[146, 146] #[3] false }
theorem ty210 : TyOk Try.prog 210 ti210 := ⟨by kernel_rfl, by kernel_rfl⟩
def ti211 : TI := { sz := 1, by' := 8, zero := [.nilFunc], ud := .func #[27] #[] false }
theorem ty211 : TyOk Try.prog 211 ti211 := ⟨by kernel_rfl, by kernel_rfl⟩
def ti212 : TI := { sz := 1, by' := 8, zero := [.pointer none], ud := .pointer 203 }
theorem ty212 : TyOk Try.prog 212 ti212 := ⟨by kernel_rfl, by kernel_rfl⟩
def ti214 : TI := { sz := 1, by' := 8, zero := [.nilFunc], ud := .func #[24, 3, 3, 207] #[3, 3] false }
theorem ty214 : TyOk Try.prog 214 ti214 := ⟨by kernel_rfl, by kernel_rfl⟩
def ti215 : TI := { sz := 1, by' := 8, zero := [.nilFunc], ud := .func #[37] #[4] false }
theorem ty215 : TyOk Try.prog 215 ti215 := ⟨by kernel_rfl, by kernel_rfl⟩
def ti216 : TI := { sz := 1, by' := 8, zero := [.nilFunc], ud := .func #[5, 5] #[3] false }
theorem ty216 : TyOk Try.prog 216 ti216 := ⟨by kernel_rfl, by kernel_rfl⟩
def ti217 : TI := { sz := 1, by' := 8, zero := [.nilFunc], ud := .func #[] #[9] false }
theorem ty217 : TyOk Try.prog 217 ti217 := ⟨by kernel_rfl, by kernel_rfl⟩
def ti218 : TI := { sz := 4, by' := 40, zero := [.pointer none, .pointer none, .pointer none, .string .empty], ud := .struct #[{ name := "_interface", type := 17, offset := 0, embedded := false, tag := "", pkgPath := "runtime", byteOffset := 0 }, { name := "concrete", type := 17, offset := 1, embedded := false, tag := "", pkgPath := "runtime", byteOffset := 8 }, { name := "asserted", type := 17, offset := 2, embedded := false, tag := "", pkgPath := "runtime", byteOffset := 16 }, { name := "missingMethod", type := 9, offset := 3, embedded := false, tag := "", pkgPath := "runtime", byteOffset := 24 }] }
theorem ty218 : TyOk Try.prog 218 ti218 := ⟨by kernel_rfl, by kernel_rfl⟩
def ti219 : TI := { sz := 4, by' := 40, zero := [.pointer none, .pointer none, .pointer none, .string .empty], ud := .struct #[{ name := "_interface", type := 17, offset := 0, embedded := false, tag := "", pkgPath := "runtime", byteOffset := 0 }, { name := "concrete", type := 17, offset := 1, embedded := false, tag := "", pkgPath := "runtime", byteOffset := 8 }, { name := "asserted", type := 17, offset := 2, embedded := false, tag := "", pkgPath := "runtime", byteOffset := 16 }, { name := "missingMethod", type := 9, offset := 3, embedded := false, tag := "", pkgPath := "runtime", byteOffset := 24 }] }
theorem ty219 : TyOk Try.prog 219 ti219 := ⟨by kernel_rfl, by kernel_rfl⟩
def ti223 : TI := { sz := 1, by' := 8, zero := [.nilFunc], ud := .func #[] #[3] false }
theorem ty223 : TyOk Try.prog 223 ti223 := ⟨by kernel_rfl, by kernel_rfl⟩
def ti224 : TI := { sz := 1, by' := 1, zero := [.int .u8 0], ud := .int .u8 }
theorem ty224 : TyOk Try.prog 224 ti224 := ⟨by kernel_rfl, by kernel_rfl⟩
def ti225 : TI := { sz := 1, by' := 1, zero := [.int .u8 0], ud := .int .u8 }
theorem ty225 : TyOk Try.prog 225 ti225 := ⟨by kernel_rfl, by kernel_rfl⟩
def ti226 : TI := { sz := 1, by' := 8, zero := [.nilFunc], ud := .func #[232, 232] #[4] false }
theorem ty226 : TyOk Try.prog 226 ti226 := ⟨by kernel_rfl, by kernel_rfl⟩
def ti227 : TI := { sz := 1, by' := 8, zero := [.pointer none], ud := .pointer 5 }
theorem ty227 : TyOk Try.prog 227 ti227 := ⟨by kernel_rfl, by kernel_rfl⟩
def ti228 : TI := { sz := 1, by' := 4, zero := [.int .i32 0], ud := .int .i32 }
theorem ty228 : TyOk Try.prog 228 ti228 := ⟨by kernel_rfl, by kernel_rfl⟩
def ti229 : TI := { sz := 1, by' := 4, zero := [.int .i32 0], ud := .int .i32 }
theorem ty229 : TyOk Try.prog 229 ti229 := ⟨by kernel_rfl, by kernel_rfl⟩
def ti230 : TI := { sz := 11, by' := 48, zero := [.int .u64 0, .int .u64 0, .int .u32 0, .int .u8 0, .int .u8 0, .int .u8 0, .int .u8 0, .nilFunc, .pointer none, .int .i32 0, .int .i32 0], ud := .struct #[{ name := "Size_", type := 12, offset := 0, embedded := false, tag := "", pkgPath := "", byteOffset := 0 }, { name := "PtrBytes", type := 12, offset := 1, embedded := false, tag := "", pkgPath := "", byteOffset := 8 }, { name := "Hash", type := 198, offset := 2, embedded := false, tag := "", pkgPath := "", byteOffset := 16 }, { name := "TFlag", type := 224, offset := 3, embedded := false, tag := "", pkgPath := "", byteOffset := 20 }, { name := "Align_", type := 5, offset := 4, embedded := false, tag := "", pkgPath := "", byteOffset := 21 }, { name := "FieldAlign_", type := 5, offset := 5, embedded := false, tag := "", pkgPath := "", byteOffset := 22 }, { name := "Kind_", type := 225, offset := 6, embedded := false, tag := "", pkgPath := "", byteOffset := 23 }, { name := "Equal", type := 226, offset := 7, embedded := false, tag := "", pkgPath := "", byteOffset := 24 }, { name := "GCData", type := 227, offset := 8, embedded := false, tag := "", pkgPath := "", byteOffset := 32 }, { name := "Str", type := 228, offset := 9, embedded := false, tag := "", pkgPath := "", byteOffset := 40 }, { name := "PtrToThis", type := 229, offset := 10, embedded := false, tag := "", pkgPath := "", byteOffset := 44 }] }
theorem ty230 : TyOk Try.prog 230 ti230 := ⟨by kernel_rfl, by kernel_rfl⟩
def ti231 : TI := { sz := 11, by' := 48, zero := [.int .u64 0, .int .u64 0, .int .u32 0, .int .u8 0, .int .u8 0, .int .u8 0, .int .u8 0, .nilFunc, .pointer none, .int .i32 0, .int .i32 0], ud := .struct #[{ name := "Size_", type := 12, offset := 0, embedded := false, tag := "", pkgPath := "", byteOffset := 0 }, { name := "PtrBytes", type := 12, offset := 1, embedded := false, tag := "", pkgPath := "", byteOffset := 8 }, { name := "Hash", type := 198, offset := 2, embedded := false, tag := "", pkgPath := "", byteOffset := 16 }, { name := "TFlag", type := 224, offset := 3, embedded := false, tag := "", pkgPath := "", byteOffset := 20 }, { name := "Align_", type := 5, offset := 4, embedded := false, tag := "", pkgPath := "", byteOffset := 21 }, { name := "FieldAlign_", type := 5, offset := 5, embedded := false, tag := "", pkgPath := "", byteOffset := 22 }, { name := "Kind_", type := 225, offset := 6, embedded := false, tag := "", pkgPath := "", byteOffset := 23 }, { name := "Equal", type := 226, offset := 7, embedded := false, tag := "", pkgPath := "", byteOffset := 24 }, { name := "GCData", type := 227, offset := 8, embedded := false, tag := "", pkgPath := "", byteOffset := 32 }, { name := "Str", type := 228, offset := 9, embedded := false, tag := "", pkgPath := "", byteOffset := 40 }, { name := "PtrToThis", type := 229, offset := 10, embedded := false, tag := "", pkgPath := "", byteOffset := 44 }] }
theorem ty231 : TyOk Try.prog 231 ti231 := ⟨by kernel_rfl, by kernel_rfl⟩
def tab : List (Nat × TI) := [(1, ti1), (2, ti2), (3, ti3), (4, ti4), (5, ti5), (6, ti6), (7, ti7), (8, ti8), (9, ti9), (10, ti10), (11, ti11), (12, ti12), (13, ti13), (14, ti14), (15, ti15), (16, ti16), (17, ti17), (18, ti18), (19, ti19), (21, ti21), (22, ti22), (23, ti23), (24, ti24), (26, ti26), (27, ti27), (28, ti28), (29, ti29), (30, ti30), (31, ti31), (32, ti32), (33, ti33), (35, ti35), (36, ti36), (37, ti37), (38, ti38), (39, ti39), (41, ti41), (42, ti42), (43, ti43), (44, ti44), (45, ti45), (46, ti46), (47, ti47), (48, ti48), (49, ti49), (51, ti51), (52, ti52), (53, ti53), (54, ti54), (55, ti55), (56, ti56), (57, ti57), (58, ti58), (60, ti60), (61, ti61), (62, ti62), (63, ti63), (64, ti64), (65, ti65), (67, ti67), (68, ti68), (69, ti69), (70, ti70), (71, ti71), (72, ti72), (73, ti73), (74, ti74), (75, ti75), (76, ti76), (77, ti77), (79, ti79), (80, ti80), (81, ti81), (82, ti82), (83, ti83), (84, ti84), (85, ti85), (86, ti86), (87, ti87), (88, ti88), (89, ti89), (90, ti90), (91, ti91), (92, ti92), (93, ti93), (94, ti94), (95, ti95), (96, ti96), (97, ti97), (98, ti98), (100, ti100), (101, ti101), (102, ti102), (103, ti103), (104, ti104), (105, ti105), (106, ti106), (107, ti107), (108, ti108), (109, ti109), (110, ti110), (111, ti111), (112, ti112), (113, ti113), (114, ti114), (115, ti115), (116, ti116), (117, ti117), (118, ti118), (119, ti119), (120, ti120), (121, ti121), (122, ti122), (123, ti123), (124, ti124), (125, ti125), (126, ti126), (127, ti127), (128, ti128), (129, ti129), (130, ti130), (131, ti131), (132, ti132), (133, ti133), (134, ti134), (135, ti135), (136, ti136), (137, ti137), (138, ti138), (139, ti139), (140, ti140), (141, ti141), (142, ti142), (143, ti143), (144, ti144), (145, ti145), (146, ti146), (147, ti147), (148, ti148), (149, ti149), (151, ti151), (152, ti152), (153, ti153), (154, ti154), (155, ti155), (156, ti156), (157, ti157), (158, ti158), (159, ti159), (160, ti160), (161, ti161), (162, ti162), (163, ti163), (164, ti164), (165, ti165), (166, ti166), (167, ti167), (168, ti168), (169, ti169), (170, ti170), (171, ti171), (172, ti172), (173, ti173), (174, ti174), (175, ti175), (176, ti176), (177, ti177), (178, ti178), (179, ti179), (180, ti180), (181, ti181), (182, ti182), (183, ti183), (184, ti184), (185, ti185), (186, ti186), (187, ti187), (188, ti188), (189, ti189), (191, ti191), (192, ti192), (193, ti193), (194, ti194), (196, ti196), (197, ti197), (198, ti198), (199, ti199), (200, ti200), (201, ti201), (202, ti202), (203, ti203), (204, ti204), (205, ti205), (206, ti206), (207, ti207), (208, ti208), (209, ti209), (210, ti210), (211, ti211), (212, ti212), (214, ti214), (215, ti215), (216, ti216), (217, ti217), (218, ti218), (219, ti219), (223, ti223), (224, ti224), (225, ti225), (226, ti226), (227, ti227), (228, ti228), (229, ti229), (230, ti230), (231, ti231)]
theorem tab_ok : ∀ e ∈ tab, TyOk Try.prog e.1 e.2 := by
  unfold tab
  refine List.forall_mem_cons.2 ⟨ty1, ?_⟩
  refine List.forall_mem_cons.2 ⟨ty2, ?_⟩
  refine List.forall_mem_cons.2 ⟨ty3, ?_⟩
  refine List.forall_mem_cons.2 ⟨ty4, ?_⟩
  refine List.forall_mem_cons.2 ⟨ty5, ?_⟩
  refine List.forall_mem_cons.2 ⟨ty6, ?_⟩
  refine List.forall_mem_cons.2 ⟨ty7, ?_⟩
  refine List.forall_mem_cons.2 ⟨ty8, ?_⟩
  refine List.forall_mem_cons.2 ⟨ty9, ?_⟩
  refine List.forall_mem_cons.2 ⟨ty10, ?_⟩
  refine List.forall_mem_cons.2 ⟨ty11, ?_⟩
  refine List.forall_mem_cons.2 ⟨ty12, ?_⟩
  refine List.forall_mem_cons.2 ⟨ty13, ?_⟩
  refine List.forall_mem_cons.2 ⟨ty14, ?_⟩
  refine List.forall_mem_cons.2 ⟨ty15, ?_⟩
  refine List.forall_mem_cons.2 ⟨ty16, ?_⟩
  refine List.forall_mem_cons.2 ⟨ty17, ?_⟩
  refine List.forall_mem_cons.2 ⟨ty18, ?_⟩
  refine List.forall_mem_cons.2 ⟨ty19, ?_⟩
  refine List.forall_mem_cons.2 ⟨ty21, ?_⟩
  refine List.forall_mem_cons.2 ⟨ty22, ?_⟩
  refine List.forall_mem_cons.2 ⟨ty23, ?_⟩
  refine List.forall_mem_cons.2 ⟨ty24, ?_⟩
  refine List.forall_mem_cons.2 ⟨ty26, ?_⟩
  refine List.forall_mem_cons.2 ⟨ty27, ?_⟩
  refine List.forall_mem_cons.2 ⟨ty28, ?_⟩
  refine List.forall_mem_cons.2 ⟨ty29, ?_⟩
  refine List.forall_mem_cons.2 ⟨ty30, ?_⟩
  refine List.forall_mem_cons.2 ⟨ty31, ?_⟩
  refine List.forall_mem_cons.2 ⟨ty32, ?_⟩
  refine List.forall_mem_cons.2 ⟨ty33, ?_⟩
  refine List.forall_mem_cons.2 ⟨ty35, ?_⟩
  refine List.forall_mem_cons.2 ⟨ty36, ?_⟩
  refine List.forall_mem_cons.2 ⟨ty37, ?_⟩
  refine List.forall_mem_cons.2 ⟨ty38, ?_⟩
  refine List.forall_mem_cons.2 ⟨ty39, ?_⟩
  refine List.forall_mem_cons.2 ⟨ty41, ?_⟩
  refine List.forall_mem_cons.2 ⟨ty42, ?_⟩
  refine List.forall_mem_cons.2 ⟨ty43, ?_⟩
  refine List.forall_mem_cons.2 ⟨ty44, ?_⟩
  refine List.forall_mem_cons.2 ⟨ty45, ?_⟩
  refine List.forall_mem_cons.2 ⟨ty46, ?_⟩
  refine List.forall_mem_cons.2 ⟨ty47, ?_⟩
  refine List.forall_mem_cons.2 ⟨ty48, ?_⟩
  refine List.forall_mem_cons.2 ⟨ty49, ?_⟩
  refine List.forall_mem_cons.2 ⟨ty51, ?_⟩
  refine List.forall_mem_cons.2 ⟨ty52, ?_⟩
  refine List.forall_mem_cons.2 ⟨ty53, ?_⟩
  refine List.forall_mem_cons.2 ⟨ty54, ?_⟩
  refine List.forall_mem_cons.2 ⟨ty55, ?_⟩
  refine List.forall_mem_cons.2 ⟨ty56, ?_⟩
  refine List.forall_mem_cons.2 ⟨ty57, ?_⟩
  refine List.forall_mem_cons.2 ⟨ty58, ?_⟩
  refine List.forall_mem_cons.2 ⟨ty60, ?_⟩
  refine List.forall_mem_cons.2 ⟨ty61, ?_⟩
  refine List.forall_mem_cons.2 ⟨ty62, ?_⟩
  refine List.forall_mem_cons.2 ⟨ty63, ?_⟩
  refine List.forall_mem_cons.2 ⟨ty64, ?_⟩
  refine List.forall_mem_cons.2 ⟨ty65, ?_⟩
  refine List.forall_mem_cons.2 ⟨ty67, ?_⟩
  refine List.forall_mem_cons.2 ⟨ty68, ?_⟩
  refine List.forall_mem_cons.2 ⟨ty69, ?_⟩
  refine List.forall_mem_cons.2 ⟨ty70, ?_⟩
  refine List.forall_mem_cons.2 ⟨ty71, ?_⟩
  refine List.forall_mem_cons.2 ⟨ty72, ?_⟩
  refine List.forall_mem_cons.2 ⟨ty73, ?_⟩
  refine List.forall_mem_cons.2 ⟨ty74, ?_⟩
  refine List.forall_mem_cons.2 ⟨ty75, ?_⟩
  refine List.forall_mem_cons.2 ⟨ty76, ?_⟩
  refine List.forall_mem_cons.2 ⟨ty77, ?_⟩
  refine List.forall_mem_cons.2 ⟨ty79, ?_⟩
  refine List.forall_mem_cons.2 ⟨ty80, ?_⟩
  refine List.forall_mem_cons.2 ⟨ty81, ?_⟩
  refine List.forall_mem_cons.2 ⟨ty82, ?_⟩
  refine List.forall_mem_cons.2 ⟨ty83, ?_⟩
  refine List.forall_mem_cons.2 ⟨ty84, ?_⟩
  refine List.forall_mem_cons.2 ⟨ty85, ?_⟩
  refine List.forall_mem_cons.2 ⟨ty86, ?_⟩
  refine List.forall_mem_cons.2 ⟨ty87, ?_⟩
  refine List.forall_mem_cons.2 ⟨ty88, ?_⟩
  refine List.forall_mem_cons.2 ⟨ty89, ?_⟩
  refine List.forall_mem_cons.2 ⟨ty90, ?_⟩
  refine List.forall_mem_cons.2 ⟨ty91, ?_⟩
  refine List.forall_mem_cons.2 ⟨ty92, ?_⟩
  refine List.forall_mem_cons.2 ⟨ty93, ?_⟩
  refine List.forall_mem_cons.2 ⟨ty94, ?_⟩
  refine List.forall_mem_cons.2 ⟨ty95, ?_⟩
  refine List.forall_mem_cons.2 ⟨ty96, ?_⟩
  refine List.forall_mem_cons.2 ⟨ty97, ?_⟩
  refine List.forall_mem_cons.2 ⟨ty98, ?_⟩
  refine List.forall_mem_cons.2 ⟨ty100, ?_⟩
  refine List.forall_mem_cons.2 ⟨ty101, ?_⟩
  refine List.forall_mem_cons.2 ⟨ty102, ?_⟩
  refine List.forall_mem_cons.2 ⟨ty103, ?_⟩
  refine List.forall_mem_cons.2 ⟨ty104, ?_⟩
  refine List.forall_mem_cons.2 ⟨ty105, ?_⟩
  refine List.forall_mem_cons.2 ⟨ty106, ?_⟩
  refine List.forall_mem_cons.2 ⟨ty107, ?_⟩
  refine List.forall_mem_cons.2 ⟨ty108, ?_⟩
  refine List.forall_mem_cons.2 ⟨ty109, ?_⟩
  refine List.forall_mem_cons.2 ⟨ty110, ?_⟩
  refine List.forall_mem_cons.2 ⟨ty111, ?_⟩
  refine List.forall_mem_cons.2 ⟨ty112, ?_⟩
  refine List.forall_mem_cons.2 ⟨ty113, ?_⟩
  refine List.forall_mem_cons.2 ⟨ty114, ?_⟩
  refine List.forall_mem_cons.2 ⟨ty115, ?_⟩
  refine List.forall_mem_cons.2 ⟨ty116, ?_⟩
  refine List.forall_mem_cons.2 ⟨ty117, ?_⟩
  refine List.forall_mem_cons.2 ⟨ty118, ?_⟩
  refine List.forall_mem_cons.2 ⟨ty119, ?_⟩
  refine List.forall_mem_cons.2 ⟨ty120, ?_⟩
  refine List.forall_mem_cons.2 ⟨ty121, ?_⟩
  refine List.forall_mem_cons.2 ⟨ty122, ?_⟩
  refine List.forall_mem_cons.2 ⟨ty123, ?_⟩
  refine List.forall_mem_cons.2 ⟨ty124, ?_⟩
  refine List.forall_mem_cons.2 ⟨ty125, ?_⟩
  refine List.forall_mem_cons.2 ⟨ty126, ?_⟩
  refine List.forall_mem_cons.2 ⟨ty127, ?_⟩
  refine List.forall_mem_cons.2 ⟨ty128, ?_⟩
  refine List.forall_mem_cons.2 ⟨ty129, ?_⟩
  refine List.forall_mem_cons.2 ⟨ty130, ?_⟩
  refine List.forall_mem_cons.2 ⟨ty131, ?_⟩
  refine List.forall_mem_cons.2 ⟨ty132, ?_⟩
  refine List.forall_mem_cons.2 ⟨ty133, ?_⟩
  refine List.forall_mem_cons.2 ⟨ty134, ?_⟩
  refine List.forall_mem_cons.2 ⟨ty135, ?_⟩
  refine List.forall_mem_cons.2 ⟨ty136, ?_⟩
  refine List.forall_mem_cons.2 ⟨ty137, ?_⟩
  refine List.forall_mem_cons.2 ⟨ty138, ?_⟩
  refine List.forall_mem_cons.2 ⟨ty139, ?_⟩
  refine List.forall_mem_cons.2 ⟨ty140, ?_⟩
  refine List.forall_mem_cons.2 ⟨ty141, ?_⟩
  refine List.forall_mem_cons.2 ⟨ty142, ?_⟩
  refine List.forall_mem_cons.2 ⟨ty143, ?_⟩
  refine List.forall_mem_cons.2 ⟨ty144, ?_⟩
  refine List.forall_mem_cons.2 ⟨ty145, ?_⟩
  refine List.forall_mem_cons.2 ⟨ty146, ?_⟩
  refine List.forall_mem_cons.2 ⟨ty147, ?_⟩
  refine List.forall_mem_cons.2 ⟨ty148, ?_⟩
  refine List.forall_mem_cons.2 ⟨ty149, ?_⟩
  refine List.forall_mem_cons.2 ⟨ty151, ?_⟩
  refine List.forall_mem_cons.2 ⟨ty152, ?_⟩
  refine List.forall_mem_cons.2 ⟨ty153, ?_⟩
  refine List.forall_mem_cons.2 ⟨ty154, ?_⟩
  refine List.forall_mem_cons.2 ⟨ty155, ?_⟩
  refine List.forall_mem_cons.2 ⟨ty156, ?_⟩
  refine List.forall_mem_cons.2 ⟨ty157, ?_⟩
  refine List.forall_mem_cons.2 ⟨ty158, ?_⟩
  refine List.forall_mem_cons.2 ⟨ty159, ?_⟩
  refine List.forall_mem_cons.2 ⟨ty160, ?_⟩
  refine List.forall_mem_cons.2 ⟨ty161, ?_⟩
  refine List.forall_mem_cons.2 ⟨ty162, ?_⟩
  refine List.forall_mem_cons.2 ⟨ty163, ?_⟩
  refine List.forall_mem_cons.2 ⟨ty164, ?_⟩
  refine List.forall_mem_cons.2 ⟨ty165, ?_⟩
  refine List.forall_mem_cons.2 ⟨ty166, ?_⟩
  refine List.forall_mem_cons.2 ⟨ty167, ?_⟩
  refine List.forall_mem_cons.2 ⟨ty168, ?_⟩
  refine List.forall_mem_cons.2 ⟨ty169, ?_⟩
  refine List.forall_mem_cons.2 ⟨ty170, ?_⟩
  refine List.forall_mem_cons.2 ⟨ty171, ?_⟩
  refine List.forall_mem_cons.2 ⟨ty172, ?_⟩
  refine List.forall_mem_cons.2 ⟨ty173, ?_⟩
  refine List.forall_mem_cons.2 ⟨ty174, ?_⟩
  refine List.forall_mem_cons.2 ⟨ty175, ?_⟩
  refine List.forall_mem_cons.2 ⟨ty176, ?_⟩
  refine List.forall_mem_cons.2 ⟨ty177, ?_⟩
  refine List.forall_mem_cons.2 ⟨ty178, ?_⟩
  refine List.forall_mem_cons.2 ⟨ty179, ?_⟩
  refine List.forall_mem_cons.2 ⟨ty180, ?_⟩
  refine List.forall_mem_cons.2 ⟨ty181, ?_⟩
  refine List.forall_mem_cons.2 ⟨ty182, ?_⟩
  refine List.forall_mem_cons.2 ⟨ty183, ?_⟩
  refine List.forall_mem_cons.2 ⟨ty184, ?_⟩
  refine List.forall_mem_cons.2 ⟨ty185, ?_⟩
  refine List.forall_mem_cons.2 ⟨ty186, ?_⟩
  refine List.forall_mem_cons.2 ⟨ty187, ?_⟩
  refine List.forall_mem_cons.2 ⟨ty188, ?_⟩
  refine List.forall_mem_cons.2 ⟨ty189, ?_⟩
  refine List.forall_mem_cons.2 ⟨ty191, ?_⟩
  refine List.forall_mem_cons.2 ⟨ty192, ?_⟩
  refine List.forall_mem_cons.2 ⟨ty193, ?_⟩
  refine List.forall_mem_cons.2 ⟨ty194, ?_⟩
  refine List.forall_mem_cons.2 ⟨ty196, ?_⟩
  refine List.forall_mem_cons.2 ⟨ty197, ?_⟩
  refine List.forall_mem_cons.2 ⟨ty198, ?_⟩
  refine List.forall_mem_cons.2 ⟨ty199, ?_⟩
  refine List.forall_mem_cons.2 ⟨ty200, ?_⟩
  refine List.forall_mem_cons.2 ⟨ty201, ?_⟩
  refine List.forall_mem_cons.2 ⟨ty202, ?_⟩
  refine List.forall_mem_cons.2 ⟨ty203, ?_⟩
  refine List.forall_mem_cons.2 ⟨ty204, ?_⟩
  refine List.forall_mem_cons.2 ⟨ty205, ?_⟩
  refine List.forall_mem_cons.2 ⟨ty206, ?_⟩
  refine List.forall_mem_cons.2 ⟨ty207, ?_⟩
  refine List.forall_mem_cons.2 ⟨ty208, ?_⟩
  refine List.forall_mem_cons.2 ⟨ty209, ?_⟩
  refine List.forall_mem_cons.2 ⟨ty210, ?_⟩
  refine List.forall_mem_cons.2 ⟨ty211, ?_⟩
  refine List.forall_mem_cons.2 ⟨ty212, ?_⟩
  refine List.forall_mem_cons.2 ⟨ty214, ?_⟩
  refine List.forall_mem_cons.2 ⟨ty215, ?_⟩
  refine List.forall_mem_cons.2 ⟨ty216, ?_⟩
  refine List.forall_mem_cons.2 ⟨ty217, ?_⟩
  refine List.forall_mem_cons.2 ⟨ty218, ?_⟩
  refine List.forall_mem_cons.2 ⟨ty219, ?_⟩
  refine List.forall_mem_cons.2 ⟨ty223, ?_⟩
  refine List.forall_mem_cons.2 ⟨ty224, ?_⟩
  refine List.forall_mem_cons.2 ⟨ty225, ?_⟩
  refine List.forall_mem_cons.2 ⟨ty226, ?_⟩
  refine List.forall_mem_cons.2 ⟨ty227, ?_⟩
  refine List.forall_mem_cons.2 ⟨ty228, ?_⟩
  refine List.forall_mem_cons.2 ⟨ty229, ?_⟩
  refine List.forall_mem_cons.2 ⟨ty230, ?_⟩
  refine List.forall_mem_cons.2 ⟨ty231, ?_⟩
  simp
def tys : Nat → Option TI := lookT tab
theorem tys_ok : ∀ t i, tys t = some i → TyOk Try.prog t i := lookT_ok tab_ok
end Go.Proofs.Ytlaabifehcfllaa
