/- The seat's types, as the av texts know them. Written by a program (wip/tools/tys.py). -/
import Derived.Test.YtcfkdcjindhnjaaGreatMA
import Derived.Test.YtcfkdcjindhnjaaGreatProg
namespace Go.Proofs.YtcfkdcjindhnjaaGreat
open Go Go.Av

def ti1 : TI := { sz := 1, by' := 8, zero := [.nilFunc], ud := .func #[] #[] false }
theorem ty1 : TyOk Tryz.prog 1 ti1 := ⟨by kernel_rfl, by kernel_rfl⟩
def ti2 : TI := { sz := 1, by' := 8, zero := [.int .i64 0], ud := .int .i64 }
theorem ty2 : TyOk Tryz.prog 2 ti2 := ⟨by kernel_rfl, by kernel_rfl⟩
def ti3 : TI := { sz := 1, by' := 8, zero := [.int .i64 0], ud := .int .i64 }
theorem ty3 : TyOk Tryz.prog 3 ti3 := ⟨by kernel_rfl, by kernel_rfl⟩
def ti4 : TI := { sz := 1, by' := 1, zero := [.bool false], ud := .bool }
theorem ty4 : TyOk Tryz.prog 4 ti4 := ⟨by kernel_rfl, by kernel_rfl⟩
def ti5 : TI := { sz := 1, by' := 1, zero := [.int .u8 0], ud := .int .u8 }
theorem ty5 : TyOk Tryz.prog 5 ti5 := ⟨by kernel_rfl, by kernel_rfl⟩
def ti6 : TI := { sz := 1, by' := 1, zero := [.int .u8 0], ud := .int .u8 }
theorem ty6 : TyOk Tryz.prog 6 ti6 := ⟨by kernel_rfl, by kernel_rfl⟩
def ti7 : TI := { sz := 4, by' := 24, zero := [.int .i64 0, .int .i64 0, .bool false, .int .u8 0], ud := .struct #[{ name := "x", type := 2, offset := 0, embedded := false, tag := "", pkgPath := "runtime", byteOffset := 0 }, { name := "y", type := 3, offset := 1, embedded := false, tag := "", pkgPath := "runtime", byteOffset := 8 }, { name := "signed", type := 4, offset := 2, embedded := false, tag := "", pkgPath := "runtime", byteOffset := 16 }, { name := "code", type := 6, offset := 3, embedded := false, tag := "", pkgPath := "runtime", byteOffset := 17 }] }
theorem ty7 : TyOk Tryz.prog 7 ti7 := ⟨by kernel_rfl, by kernel_rfl⟩
def ti8 : TI := { sz := 4, by' := 24, zero := [.int .i64 0, .int .i64 0, .bool false, .int .u8 0], ud := .struct #[{ name := "x", type := 2, offset := 0, embedded := false, tag := "", pkgPath := "runtime", byteOffset := 0 }, { name := "y", type := 3, offset := 1, embedded := false, tag := "", pkgPath := "runtime", byteOffset := 8 }, { name := "signed", type := 4, offset := 2, embedded := false, tag := "", pkgPath := "runtime", byteOffset := 16 }, { name := "code", type := 6, offset := 3, embedded := false, tag := "", pkgPath := "runtime", byteOffset := 17 }] }
theorem ty8 : TyOk Tryz.prog 8 ti8 := ⟨by kernel_rfl, by kernel_rfl⟩
def ti9 : TI := { sz := 1, by' := 16, zero := [.string .empty], ud := .string }
theorem ty9 : TyOk Tryz.prog 9 ti9 := ⟨by kernel_rfl, by kernel_rfl⟩
def ti10 : TI := { sz := 1, by' := 16, zero := [.string .empty], ud := .string }
theorem ty10 : TyOk Tryz.prog 10 ti10 := ⟨by kernel_rfl, by kernel_rfl⟩
def ti11 : TI := { sz := 1, by' := 16, zero := [.string .empty], ud := .string }
theorem ty11 : TyOk Tryz.prog 11 ti11 := ⟨by kernel_rfl, by kernel_rfl⟩
def ti12 : TI := { sz := 1, by' := 8, zero := [.int .u64 0], ud := .int .u64 }
theorem ty12 : TyOk Tryz.prog 12 ti12 := ⟨by kernel_rfl, by kernel_rfl⟩
def ti13 : TI := { sz := 2, by' := 24, zero := [.string .empty, .int .u64 0], ud := .struct #[{ name := "msg", type := 9, offset := 0, embedded := false, tag := "", pkgPath := "runtime", byteOffset := 0 }, { name := "addr", type := 12, offset := 1, embedded := false, tag := "", pkgPath := "runtime", byteOffset := 16 }] }
theorem ty13 : TyOk Tryz.prog 13 ti13 := ⟨by kernel_rfl, by kernel_rfl⟩
def ti14 : TI := { sz := 2, by' := 24, zero := [.string .empty, .int .u64 0], ud := .struct #[{ name := "msg", type := 9, offset := 0, embedded := false, tag := "", pkgPath := "runtime", byteOffset := 0 }, { name := "addr", type := 12, offset := 1, embedded := false, tag := "", pkgPath := "runtime", byteOffset := 16 }] }
theorem ty14 : TyOk Tryz.prog 14 ti14 := ⟨by kernel_rfl, by kernel_rfl⟩
def ti15 : TI := { sz := 1, by' := 8, zero := [.pointer none], ud := .pointer 132 }
theorem ty15 : TyOk Tryz.prog 15 ti15 := ⟨by kernel_rfl, by kernel_rfl⟩
def ti16 : TI := { sz := 1, by' := 8, zero := [.pointer none], ud := .pointer 135 }
theorem ty16 : TyOk Tryz.prog 16 ti16 := ⟨by kernel_rfl, by kernel_rfl⟩
def ti17 : TI := { sz := 1, by' := 8, zero := [.pointer none], ud := .pointer 144 }
theorem ty17 : TyOk Tryz.prog 17 ti17 := ⟨by kernel_rfl, by kernel_rfl⟩
def ti18 : TI := { sz := 1, by' := 8, zero := [.pointer none], ud := .struct #[{ name := "typ", type := 17, offset := 0, embedded := false, tag := "", pkgPath := "internal/runtime/maps", byteOffset := 0 }] }
theorem ty18 : TyOk Tryz.prog 18 ti18 := ⟨by kernel_rfl, by kernel_rfl⟩
def ti19 : TI := { sz := 1, by' := 8, zero := [.pointer none], ud := .struct #[{ name := "typ", type := 17, offset := 0, embedded := false, tag := "", pkgPath := "internal/runtime/maps", byteOffset := 0 }] }
theorem ty19 : TyOk Tryz.prog 19 ti19 := ⟨by kernel_rfl, by kernel_rfl⟩
def ti21 : TI := { sz := 1, by' := 4, zero := [.int .i32 0], ud := .int .i32 }
theorem ty21 : TyOk Tryz.prog 21 ti21 := ⟨by kernel_rfl, by kernel_rfl⟩
def ti22 : TI := { sz := 1, by' := 24, zero := [.slice none 0 0], ud := .slice 5 }
theorem ty22 : TyOk Tryz.prog 22 ti22 := ⟨by kernel_rfl, by kernel_rfl⟩
def ti23 : TI := { sz := 1, by' := 8, zero := [.nilFunc], ud := .func #[22] #[4] false }
theorem ty23 : TyOk Tryz.prog 23 ti23 := ⟨by kernel_rfl, by kernel_rfl⟩
def ti24 : TI := { sz := 1, by' := 24, zero := [.slice none 0 0], ud := .slice 2 }
theorem ty24 : TyOk Tryz.prog 24 ti24 := ⟨by kernel_rfl, by kernel_rfl⟩
def ti25 : TI := { sz := 1, by' := 8, zero := [.nilFunc], ud := .func #[22] #[24] false }
theorem ty25 : TyOk Tryz.prog 25 ti25 := ⟨by kernel_rfl, by kernel_rfl⟩
def ti26 : TI := { sz := 1, by' := 8, zero := [.nilFunc], ud := .func #[22, 2] #[2] false }
theorem ty26 : TyOk Tryz.prog 26 ti26 := ⟨by kernel_rfl, by kernel_rfl⟩
def ti28 : TI := { sz := 1, by' := 8, zero := [.nilFunc], ud := .func #[24, 2] #[24, 2, 2] false }
theorem ty28 : TyOk Tryz.prog 28 ti28 := ⟨by kernel_rfl, by kernel_rfl⟩
def ti30 : TI := { sz := 1, by' := 8, zero := [.nilFunc], ud := .func #[24, 2] #[2, 2] false }
theorem ty30 : TyOk Tryz.prog 30 ti30 := ⟨by kernel_rfl, by kernel_rfl⟩
def ti31 : TI := { sz := 1, by' := 8, zero := [.nilFunc], ud := .func #[24, 24] #[4] false }
theorem ty31 : TyOk Tryz.prog 31 ti31 := ⟨by kernel_rfl, by kernel_rfl⟩
def ti32 : TI := { sz := 1, by' := 24, zero := [.slice none 0 0], ud := .slice 42 }
theorem ty32 : TyOk Tryz.prog 32 ti32 := ⟨by kernel_rfl, by kernel_rfl⟩
def ti33 : TI := { sz := 1, by' := 8, zero := [.nilFunc], ud := .func #[22] #[32] false }
theorem ty33 : TyOk Tryz.prog 33 ti33 := ⟨by kernel_rfl, by kernel_rfl⟩
def ti35 : TI := { sz := 1, by' := 8, zero := [.nilFunc], ud := .func #[32, 2] #[2, 2, 2, 2] false }
theorem ty35 : TyOk Tryz.prog 35 ti35 := ⟨by kernel_rfl, by kernel_rfl⟩
def ti36 : TI := { sz := 3, by' := 24, zero := [.int .i64 0, .int .i64 0, .int .i64 0], ud := .array 3 2 }
theorem ty36 : TyOk Tryz.prog 36 ti36 := ⟨by kernel_rfl, by kernel_rfl⟩
def ti38 : TI := { sz := 1, by' := 8, zero := [.nilFunc], ud := .func #[32] #[36, 2] false }
theorem ty38 : TyOk Tryz.prog 38 ti38 := ⟨by kernel_rfl, by kernel_rfl⟩
def ti39 : TI := { sz := 1, by' := 2, zero := [.int .i16 0], ud := .int .i16 }
theorem ty39 : TyOk Tryz.prog 39 ti39 := ⟨by kernel_rfl, by kernel_rfl⟩
def ti40 : TI := { sz := 3, by' := 3, zero := [.int .u8 0, .int .u8 0, .int .u8 0], ud := .array 3 5 }
theorem ty40 : TyOk Tryz.prog 40 ti40 := ⟨by kernel_rfl, by kernel_rfl⟩
def ti41 : TI := { sz := 8, by' := 14, zero := [.int .i16 0, .int .u8 0, .int .u8 0, .int .u8 0, .int .i16 0, .int .i16 0, .int .i16 0, .int .i16 0], ud := .struct #[{ name := "Class", type := 39, offset := 0, embedded := false, tag := "", pkgPath := "", byteOffset := 0 }, { name := "Mark", type := 40, offset := 1, embedded := false, tag := "", pkgPath := "", byteOffset := 2 }, { name := "Volume", type := 39, offset := 4, embedded := false, tag := "", pkgPath := "", byteOffset := 6 }, { name := "Wide", type := 39, offset := 5, embedded := false, tag := "", pkgPath := "", byteOffset := 8 }, { name := "High", type := 39, offset := 6, embedded := false, tag := "", pkgPath := "", byteOffset := 10 }, { name := "Weight", type := 39, offset := 7, embedded := false, tag := "", pkgPath := "", byteOffset := 12 }] }
theorem ty41 : TyOk Tryz.prog 41 ti41 := ⟨by kernel_rfl, by kernel_rfl⟩
def ti42 : TI := { sz := 8, by' := 14, zero := [.int .i16 0, .int .u8 0, .int .u8 0, .int .u8 0, .int .i16 0, .int .i16 0, .int .i16 0, .int .i16 0], ud := .struct #[{ name := "Class", type := 39, offset := 0, embedded := false, tag := "", pkgPath := "", byteOffset := 0 }, { name := "Mark", type := 40, offset := 1, embedded := false, tag := "", pkgPath := "", byteOffset := 2 }, { name := "Volume", type := 39, offset := 4, embedded := false, tag := "", pkgPath := "", byteOffset := 6 }, { name := "Wide", type := 39, offset := 5, embedded := false, tag := "", pkgPath := "", byteOffset := 8 }, { name := "High", type := 39, offset := 6, embedded := false, tag := "", pkgPath := "", byteOffset := 10 }, { name := "Weight", type := 39, offset := 7, embedded := false, tag := "", pkgPath := "", byteOffset := 12 }] }
theorem ty42 : TyOk Tryz.prog 42 ti42 := ⟨by kernel_rfl, by kernel_rfl⟩
def ti44 : TI := { sz := 1, by' := 8, zero := [.nilFunc], ud := .func #[32, 32] #[24, 2] false }
theorem ty44 : TyOk Tryz.prog 44 ti44 := ⟨by kernel_rfl, by kernel_rfl⟩
def ti45 : TI := { sz := 1, by' := 8, zero := [.nilFunc], ud := .func #[42, 42] #[2] false }
theorem ty45 : TyOk Tryz.prog 45 ti45 := ⟨by kernel_rfl, by kernel_rfl⟩
def ti46 : TI := { sz := 1, by' := 8, zero := [.nilFunc], ud := .func #[24, 2] #[4] false }
theorem ty46 : TyOk Tryz.prog 46 ti46 := ⟨by kernel_rfl, by kernel_rfl⟩
def ti47 : TI := { sz := 1, by' := 8, zero := [.nilFunc], ud := .func #[22, 22] #[4] false }
theorem ty47 : TyOk Tryz.prog 47 ti47 := ⟨by kernel_rfl, by kernel_rfl⟩
def ti48 : TI := { sz := 1, by' := 8, zero := [.pointer none], ud := .pointer 74 }
theorem ty48 : TyOk Tryz.prog 48 ti48 := ⟨by kernel_rfl, by kernel_rfl⟩
def ti49 : TI := { sz := 1, by' := 8, zero := [.nilFunc], ud := .func #[22] #[48] false }
theorem ty49 : TyOk Tryz.prog 49 ti49 := ⟨by kernel_rfl, by kernel_rfl⟩
def ti50 : TI := { sz := 1, by' := 8, zero := [.nilFunc], ud := .func #[2] #[2] false }
theorem ty50 : TyOk Tryz.prog 50 ti50 := ⟨by kernel_rfl, by kernel_rfl⟩
def ti51 : TI := { sz := 1, by' := 8, zero := [.nilFunc], ud := .func #[24, 2] #[2] false }
theorem ty51 : TyOk Tryz.prog 51 ti51 := ⟨by kernel_rfl, by kernel_rfl⟩
def ti52 : TI := { sz := 1, by' := 8, zero := [.nilFunc], ud := .func #[54] #[24] false }
theorem ty52 : TyOk Tryz.prog 52 ti52 := ⟨by kernel_rfl, by kernel_rfl⟩
def ti53 : TI := { sz := 1, by' := 8, zero := [.nilFunc], ud := .func #[57] #[] false }
theorem ty53 : TyOk Tryz.prog 53 ti53 := ⟨by kernel_rfl, by kernel_rfl⟩
def ti54 : TI := { sz := 1, by' := 8, zero := [.nilFunc], ud := .func #[57] #[] false }
theorem ty54 : TyOk Tryz.prog 54 ti54 := ⟨by kernel_rfl, by kernel_rfl⟩
def ti55 : TI := { sz := 1, by' := 8, zero := [.nilFunc], ud := .func #[24] #[54] false }
theorem ty55 : TyOk Tryz.prog 55 ti55 := ⟨by kernel_rfl, by kernel_rfl⟩
def ti56 : TI := { sz := 1, by' := 8, zero := [.nilFunc], ud := .func #[24, 57] #[3] false }
theorem ty56 : TyOk Tryz.prog 56 ti56 := ⟨by kernel_rfl, by kernel_rfl⟩
def ti57 : TI := { sz := 1, by' := 8, zero := [.nilFunc], ud := .func #[2] #[4] false }
theorem ty57 : TyOk Tryz.prog 57 ti57 := ⟨by kernel_rfl, by kernel_rfl⟩
def ti58 : TI := { sz := 1, by' := 8, zero := [.nilFunc], ud := .func #[24] #[24] false }
theorem ty58 : TyOk Tryz.prog 58 ti58 := ⟨by kernel_rfl, by kernel_rfl⟩
def ti59 : TI := { sz := 1, by' := 8, zero := [.nilFunc], ud := .func #[24] #[] false }
theorem ty59 : TyOk Tryz.prog 59 ti59 := ⟨by kernel_rfl, by kernel_rfl⟩
def ti60 : TI := { sz := 1, by' := 8, zero := [.nilFunc], ud := .func #[2, 2] #[3] false }
theorem ty60 : TyOk Tryz.prog 60 ti60 := ⟨by kernel_rfl, by kernel_rfl⟩
def ti61 : TI := { sz := 1, by' := 8, zero := [.nilFunc], ud := .func #[24, 24] #[3] false }
theorem ty61 : TyOk Tryz.prog 61 ti61 := ⟨by kernel_rfl, by kernel_rfl⟩
def ti62 : TI := { sz := 1, by' := 8, zero := [.nilFunc], ud := .func #[2, 2] #[2] false }
theorem ty62 : TyOk Tryz.prog 62 ti62 := ⟨by kernel_rfl, by kernel_rfl⟩
def ti63 : TI := { sz := 1, by' := 8, zero := [.nilFunc], ud := .func #[48] #[32] false }
theorem ty63 : TyOk Tryz.prog 63 ti63 := ⟨by kernel_rfl, by kernel_rfl⟩
def ti64 : TI := { sz := 1, by' := 8, zero := [.nilFunc], ud := .func #[32] #[4] false }
theorem ty64 : TyOk Tryz.prog 64 ti64 := ⟨by kernel_rfl, by kernel_rfl⟩
def ti65 : TI := { sz := 1, by' := 8, zero := [.nilFunc], ud := .func #[2, 2, 2] #[4] false }
theorem ty65 : TyOk Tryz.prog 65 ti65 := ⟨by kernel_rfl, by kernel_rfl⟩
def ti66 : TI := { sz := 1, by' := 8, zero := [.nilFunc], ud := .func #[32] #[36] false }
theorem ty66 : TyOk Tryz.prog 66 ti66 := ⟨by kernel_rfl, by kernel_rfl⟩
def ti67 : TI := { sz := 1, by' := 8, zero := [.nilFunc], ud := .func #[32, 32, 69] #[24] false }
theorem ty67 : TyOk Tryz.prog 67 ti67 := ⟨by kernel_rfl, by kernel_rfl⟩
def ti68 : TI := { sz := 1, by' := 8, zero := [.nilFunc], ud := .func #[42, 42] #[3] false }
theorem ty68 : TyOk Tryz.prog 68 ti68 := ⟨by kernel_rfl, by kernel_rfl⟩
def ti69 : TI := { sz := 1, by' := 8, zero := [.nilFunc], ud := .func #[42, 42] #[4] false }
theorem ty69 : TyOk Tryz.prog 69 ti69 := ⟨by kernel_rfl, by kernel_rfl⟩
def ti70 : TI := { sz := 1, by' := 8, zero := [.nilFunc], ud := .func #[71, 71] #[2] false }
theorem ty70 : TyOk Tryz.prog 70 ti70 := ⟨by kernel_rfl, by kernel_rfl⟩
def ti71 : TI := { sz := 1, by' := 8, zero := [.pointer none], ud := .pointer 42 }
theorem ty71 : TyOk Tryz.prog 71 ti71 := ⟨by kernel_rfl, by kernel_rfl⟩
def ti72 : TI := { sz := 1, by' := 8, zero := [.int .u64 0], ud := .int .u64 }
theorem ty72 : TyOk Tryz.prog 72 ti72 := ⟨by kernel_rfl, by kernel_rfl⟩
def ti73 : TI := { sz := 3, by' := 40, zero := [.slice none 0 0, .int .i64 0, .int .u64 0], ud := .struct #[{ name := "code", type := 22, offset := 0, embedded := false, tag := "", pkgPath := "loop.example/g01326/spec", byteOffset := 0 }, { name := "at", type := 3, offset := 1, embedded := false, tag := "", pkgPath := "loop.example/g01326/spec", byteOffset := 24 }, { name := "seed", type := 72, offset := 2, embedded := false, tag := "", pkgPath := "loop.example/g01326/spec", byteOffset := 32 }] }
theorem ty73 : TyOk Tryz.prog 73 ti73 := ⟨by kernel_rfl, by kernel_rfl⟩
def ti74 : TI := { sz := 3, by' := 40, zero := [.slice none 0 0, .int .i64 0, .int .u64 0], ud := .struct #[{ name := "code", type := 22, offset := 0, embedded := false, tag := "", pkgPath := "loop.example/g01326/spec", byteOffset := 0 }, { name := "at", type := 3, offset := 1, embedded := false, tag := "", pkgPath := "loop.example/g01326/spec", byteOffset := 24 }, { name := "seed", type := 72, offset := 2, embedded := false, tag := "", pkgPath := "loop.example/g01326/spec", byteOffset := 32 }] }
theorem ty74 : TyOk Tryz.prog 74 ti74 := ⟨by kernel_rfl, by kernel_rfl⟩
def ti75 : TI := { sz := 1, by' := 8, zero := [.nilFunc], ud := .func #[] #[2] false }
theorem ty75 : TyOk Tryz.prog 75 ti75 := ⟨by kernel_rfl, by kernel_rfl⟩
def ti76 : TI := { sz := 1, by' := 8, zero := [.nilFunc], ud := .func #[24, 57] #[4] false }
theorem ty76 : TyOk Tryz.prog 76 ti76 := ⟨by kernel_rfl, by kernel_rfl⟩
def ti77 : TI := { sz := 1, by' := 8, zero := [.nilFunc], ud := .func #[48] #[42] false }
theorem ty77 : TyOk Tryz.prog 77 ti77 := ⟨by kernel_rfl, by kernel_rfl⟩
def ti78 : TI := { sz := 1, by' := 8, zero := [.nilFunc], ud := .func #[80, 32] #[32] false }
theorem ty78 : TyOk Tryz.prog 78 ti78 := ⟨by kernel_rfl, by kernel_rfl⟩
def ti79 : TI := { sz := 1, by' := 1, zero := [.int .i8 0], ud := .int .i8 }
theorem ty79 : TyOk Tryz.prog 79 ti79 := ⟨by kernel_rfl, by kernel_rfl⟩
def ti80 : TI := { sz := 1, by' := 24, zero := [.slice none 0 0], ud := .slice 79 }
theorem ty80 : TyOk Tryz.prog 80 ti80 := ⟨by kernel_rfl, by kernel_rfl⟩
def ti81 : TI := { sz := 1, by' := 8, zero := [.nilFunc], ud := .func #[32, 82] #[4] false }
theorem ty81 : TyOk Tryz.prog 81 ti81 := ⟨by kernel_rfl, by kernel_rfl⟩
def ti82 : TI := { sz := 1, by' := 8, zero := [.nilFunc], ud := .func #[42] #[4] false }
theorem ty82 : TyOk Tryz.prog 82 ti82 := ⟨by kernel_rfl, by kernel_rfl⟩
def ti83 : TI := { sz := 1, by' := 8, zero := [.nilFunc], ud := .func #[71] #[4] false }
theorem ty83 : TyOk Tryz.prog 83 ti83 := ⟨by kernel_rfl, by kernel_rfl⟩
def ti84 : TI := { sz := 1, by' := 24, zero := [.slice none 0 0], ud := .slice 4 }
theorem ty84 : TyOk Tryz.prog 84 ti84 := ⟨by kernel_rfl, by kernel_rfl⟩
def ti85 : TI := { sz := 1, by' := 8, zero := [.nilFunc], ud := .func #[86, 88] #[3] false }
theorem ty85 : TyOk Tryz.prog 85 ti85 := ⟨by kernel_rfl, by kernel_rfl⟩
def ti86 : TI := { sz := 1, by' := 24, zero := [.slice none 0 0], ud := .slice 3 }
theorem ty86 : TyOk Tryz.prog 86 ti86 := ⟨by kernel_rfl, by kernel_rfl⟩
def ti87 : TI := { sz := 1, by' := 8, zero := [.nilFunc], ud := .func #[3] #[86] false }
theorem ty87 : TyOk Tryz.prog 87 ti87 := ⟨by kernel_rfl, by kernel_rfl⟩
def ti88 : TI := { sz := 1, by' := 8, zero := [.nilFunc], ud := .func #[3] #[4] false }
theorem ty88 : TyOk Tryz.prog 88 ti88 := ⟨by kernel_rfl, by kernel_rfl⟩
def ti89 : TI := { sz := 1, by' := 8, zero := [.nilFunc], ud := .func #[80, 42, 42] #[3] false }
theorem ty89 : TyOk Tryz.prog 89 ti89 := ⟨by kernel_rfl, by kernel_rfl⟩
def ti90 : TI := { sz := 1, by' := 8, zero := [.nilFunc], ud := .func #[] #[80] false }
theorem ty90 : TyOk Tryz.prog 90 ti90 := ⟨by kernel_rfl, by kernel_rfl⟩
def ti91 : TI := { sz := 1, by' := 8, zero := [.nilFunc], ud := .func #[80, 71, 71] #[2] false }
theorem ty91 : TyOk Tryz.prog 91 ti91 := ⟨by kernel_rfl, by kernel_rfl⟩
def ti92 : TI := { sz := 1, by' := 8, zero := [.int .u64 0], ud := .int .u64 }
theorem ty92 : TyOk Tryz.prog 92 ti92 := ⟨by kernel_rfl, by kernel_rfl⟩
def ti93 : TI := { sz := 1, by' := 8, zero := [.nilFunc], ud := .func #[24, 54] #[24] false }
theorem ty93 : TyOk Tryz.prog 93 ti93 := ⟨by kernel_rfl, by kernel_rfl⟩
def ti94 : TI := { sz := 1, by' := 8, zero := [.nilFunc], ud := .func #[24, 3, 3, 3] #[] false }
theorem ty94 : TyOk Tryz.prog 94 ti94 := ⟨by kernel_rfl, by kernel_rfl⟩
def ti95 : TI := { sz := 1, by' := 8, zero := [.nilFunc], ud := .func #[92] #[3] false }
theorem ty95 : TyOk Tryz.prog 95 ti95 := ⟨by kernel_rfl, by kernel_rfl⟩
def ti96 : TI := { sz := 1, by' := 8, zero := [.nilFunc], ud := .func #[39, 39, 39] #[4] false }
theorem ty96 : TyOk Tryz.prog 96 ti96 := ⟨by kernel_rfl, by kernel_rfl⟩
def ti97 : TI := { sz := 1, by' := 8, zero := [.nilFunc], ud := .func #[22, 98] #[4] false }
theorem ty97 : TyOk Tryz.prog 97 ti97 := ⟨by kernel_rfl, by kernel_rfl⟩
def ti98 : TI := { sz := 1, by' := 8, zero := [.nilFunc], ud := .func #[5] #[4] false }
theorem ty98 : TyOk Tryz.prog 98 ti98 := ⟨by kernel_rfl, by kernel_rfl⟩
def ti99 : TI := { sz := 1, by' := 8, zero := [.nilFunc], ud := .func #[40] #[4] false }
theorem ty99 : TyOk Tryz.prog 99 ti99 := ⟨by kernel_rfl, by kernel_rfl⟩
def ti100 : TI := { sz := 1, by' := 8, zero := [.nilFunc], ud := .func #[79, 42, 42] #[3] false }
theorem ty100 : TyOk Tryz.prog 100 ti100 := ⟨by kernel_rfl, by kernel_rfl⟩
def ti101 : TI := { sz := 1, by' := 8, zero := [.nilFunc], ud := .func #[79] #[79] false }
theorem ty101 : TyOk Tryz.prog 101 ti101 := ⟨by kernel_rfl, by kernel_rfl⟩
def ti102 : TI := { sz := 1, by' := 8, zero := [.nilFunc], ud := .func #[71, 79] #[36] false }
theorem ty102 : TyOk Tryz.prog 102 ti102 := ⟨by kernel_rfl, by kernel_rfl⟩
def ti103 : TI := { sz := 1, by' := 8, zero := [.nilFunc], ud := .func #[24, 3, 3] #[] false }
theorem ty103 : TyOk Tryz.prog 103 ti103 := ⟨by kernel_rfl, by kernel_rfl⟩
def ti104 : TI := { sz := 1, by' := 8, zero := [.int .i64 0], ud := .int .i64 }
theorem ty104 : TyOk Tryz.prog 104 ti104 := ⟨by kernel_rfl, by kernel_rfl⟩
def ti106 : TI := { sz := 1, by' := 8, zero := [.nilFunc], ud := .func #[24, 3, 3] #[3, 104] false }
theorem ty106 : TyOk Tryz.prog 106 ti106 := ⟨by kernel_rfl, by kernel_rfl⟩
def ti107 : TI := { sz := 1, by' := 8, zero := [.nilFunc], ud := .func #[24, 3, 3] #[4] false }
theorem ty107 : TyOk Tryz.prog 107 ti107 := ⟨by kernel_rfl, by kernel_rfl⟩
def ti108 : TI := { sz := 1, by' := 8, zero := [.nilFunc], ud := .func #[2, 2] #[4] false }
theorem ty108 : TyOk Tryz.prog 108 ti108 := ⟨by kernel_rfl, by kernel_rfl⟩
def ti109 : TI := { sz := 1, by' := 8, zero := [.nilFunc], ud := .func #[24, 3, 3, 3] #[3] false }
theorem ty109 : TyOk Tryz.prog 109 ti109 := ⟨by kernel_rfl, by kernel_rfl⟩
def ti111 : TI := { sz := 1, by' := 8, zero := [.nilFunc], ud := .func #[24, 3, 3, 3] #[3, 4] false }
theorem ty111 : TyOk Tryz.prog 111 ti111 := ⟨by kernel_rfl, by kernel_rfl⟩
def ti112 : TI := { sz := 1, by' := 8, zero := [.nilFunc], ud := .func #[113] #[3] false }
theorem ty112 : TyOk Tryz.prog 112 ti112 := ⟨by kernel_rfl, by kernel_rfl⟩
def ti113 : TI := { sz := 1, by' := 4, zero := [.int .u32 0], ud := .int .u32 }
theorem ty113 : TyOk Tryz.prog 113 ti113 := ⟨by kernel_rfl, by kernel_rfl⟩
def ti114 : TI := { sz := 1, by' := 8, zero := [.nilFunc], ud := .func #[72] #[3] false }
theorem ty114 : TyOk Tryz.prog 114 ti114 := ⟨by kernel_rfl, by kernel_rfl⟩
def ti115 : TI := { sz := 1, by' := 8, zero := [.nilFunc], ud := .func #[32, 82] #[3] false }
theorem ty115 : TyOk Tryz.prog 115 ti115 := ⟨by kernel_rfl, by kernel_rfl⟩
def ti116 : TI := { sz := 1, by' := 8, zero := [.nilFunc], ud := .func #[39, 39] #[3] false }
theorem ty116 : TyOk Tryz.prog 116 ti116 := ⟨by kernel_rfl, by kernel_rfl⟩
def ti117 : TI := { sz := 1, by' := 8, zero := [.nilFunc], ud := .func #[22, 22] #[3] false }
theorem ty117 : TyOk Tryz.prog 117 ti117 := ⟨by kernel_rfl, by kernel_rfl⟩
def ti118 : TI := { sz := 1, by' := 8, zero := [.int .u64 0], ud := .int .u64 }
theorem ty118 : TyOk Tryz.prog 118 ti118 := ⟨by kernel_rfl, by kernel_rfl⟩
def ti119 : TI := { sz := 1, by' := 8, zero := [.nilFunc], ud := .func #[3] #[92] false }
theorem ty119 : TyOk Tryz.prog 119 ti119 := ⟨by kernel_rfl, by kernel_rfl⟩
def ti120 : TI := { sz := 1, by' := 8, zero := [.nilFunc], ud := .func #[] #[72] false }
theorem ty120 : TyOk Tryz.prog 120 ti120 := ⟨by kernel_rfl, by kernel_rfl⟩
def ti121 : TI := { sz := 1, by' := 8, zero := [.nilFunc], ud := .func #[24, 3, 122] #[3] false }
theorem ty121 : TyOk Tryz.prog 121 ti121 := ⟨by kernel_rfl, by kernel_rfl⟩
def ti122 : TI := { sz := 1, by' := 8, zero := [.pointer none], ud := .pointer 3 }
theorem ty122 : TyOk Tryz.prog 122 ti122 := ⟨by kernel_rfl, by kernel_rfl⟩
def ti123 : TI := { sz := 1, by' := 8, zero := [.nilFunc], ud := .func #[24, 3, 3, 3, 122] #[3] false }
theorem ty123 : TyOk Tryz.prog 123 ti123 := ⟨by kernel_rfl, by kernel_rfl⟩
def ti124 : TI := { sz := 1, by' := 8, zero := [.nilFunc], ud := .func #[22, 98] #[3] false }
theorem ty124 : TyOk Tryz.prog 124 ti124 := ⟨by kernel_rfl, by kernel_rfl⟩
def ti125 : TI := { sz := 1, by' := 8, zero := [.nilFunc], ud := .func #[39] #[4] false }
theorem ty125 : TyOk Tryz.prog 125 ti125 := ⟨by kernel_rfl, by kernel_rfl⟩
def ti126 : TI := { sz := 1, by' := 8, zero := [.nilFunc], ud := .func #[5, 5] #[3] false }
theorem ty126 : TyOk Tryz.prog 126 ti126 := ⟨by kernel_rfl, by kernel_rfl⟩
def ti127 : TI := { sz := 1, by' := 8, zero := [.pointer none], ud := .pointer 118 }
theorem ty127 : TyOk Tryz.prog 127 ti127 := ⟨by kernel_rfl, by kernel_rfl⟩
def ti129 : TI := { sz := 1, by' := 8, zero := [.nilFunc], ud := .func #[24, 3, 3, 122] #[3, 3] false }
theorem ty129 : TyOk Tryz.prog 129 ti129 := ⟨by kernel_rfl, by kernel_rfl⟩
def ti130 : TI := { sz := 1, by' := 8, zero := [.nilFunc], ud := .func #[] #[9] false }
theorem ty130 : TyOk Tryz.prog 130 ti130 := ⟨by kernel_rfl, by kernel_rfl⟩
def ti131 : TI := { sz := 4, by' := 40, zero := [.pointer none, .pointer none, .pointer none, .string .empty], ud := .struct #[{ name := "_interface", type := 17, offset := 0, embedded := false, tag := "", pkgPath := "runtime", byteOffset := 0 }, { name := "concrete", type := 17, offset := 1, embedded := false, tag := "", pkgPath := "runtime", byteOffset := 8 }, { name := "asserted", type := 17, offset := 2, embedded := false, tag := "", pkgPath := "runtime", byteOffset := 16 }, { name := "missingMethod", type := 9, offset := 3, embedded := false, tag := "", pkgPath := "runtime", byteOffset := 24 }] }
theorem ty131 : TyOk Tryz.prog 131 ti131 := ⟨by kernel_rfl, by kernel_rfl⟩
def ti132 : TI := { sz := 4, by' := 40, zero := [.pointer none, .pointer none, .pointer none, .string .empty], ud := .struct #[{ name := "_interface", type := 17, offset := 0, embedded := false, tag := "", pkgPath := "runtime", byteOffset := 0 }, { name := "concrete", type := 17, offset := 1, embedded := false, tag := "", pkgPath := "runtime", byteOffset := 8 }, { name := "asserted", type := 17, offset := 2, embedded := false, tag := "", pkgPath := "runtime", byteOffset := 16 }, { name := "missingMethod", type := 9, offset := 3, embedded := false, tag := "", pkgPath := "runtime", byteOffset := 24 }] }
theorem ty132 : TyOk Tryz.prog 132 ti132 := ⟨by kernel_rfl, by kernel_rfl⟩
def ti136 : TI := { sz := 1, by' := 8, zero := [.nilFunc], ud := .func #[] #[3] false }
theorem ty136 : TyOk Tryz.prog 136 ti136 := ⟨by kernel_rfl, by kernel_rfl⟩
def ti137 : TI := { sz := 1, by' := 1, zero := [.int .u8 0], ud := .int .u8 }
theorem ty137 : TyOk Tryz.prog 137 ti137 := ⟨by kernel_rfl, by kernel_rfl⟩
def ti138 : TI := { sz := 1, by' := 1, zero := [.int .u8 0], ud := .int .u8 }
theorem ty138 : TyOk Tryz.prog 138 ti138 := ⟨by kernel_rfl, by kernel_rfl⟩
def ti139 : TI := { sz := 1, by' := 8, zero := [.nilFunc], ud := .func #[145, 145] #[4] false }
theorem ty139 : TyOk Tryz.prog 139 ti139 := ⟨by kernel_rfl, by kernel_rfl⟩
def ti140 : TI := { sz := 1, by' := 8, zero := [.pointer none], ud := .pointer 5 }
theorem ty140 : TyOk Tryz.prog 140 ti140 := ⟨by kernel_rfl, by kernel_rfl⟩
def ti141 : TI := { sz := 1, by' := 4, zero := [.int .i32 0], ud := .int .i32 }
theorem ty141 : TyOk Tryz.prog 141 ti141 := ⟨by kernel_rfl, by kernel_rfl⟩
def ti142 : TI := { sz := 1, by' := 4, zero := [.int .i32 0], ud := .int .i32 }
theorem ty142 : TyOk Tryz.prog 142 ti142 := ⟨by kernel_rfl, by kernel_rfl⟩
def ti143 : TI := { sz := 11, by' := 48, zero := [.int .u64 0, .int .u64 0, .int .u32 0, .int .u8 0, .int .u8 0, .int .u8 0, .int .u8 0, .nilFunc, .pointer none, .int .i32 0, .int .i32 0], ud := .struct #[{ name := "Size_", type := 12, offset := 0, embedded := false, tag := "", pkgPath := "", byteOffset := 0 }, { name := "PtrBytes", type := 12, offset := 1, embedded := false, tag := "", pkgPath := "", byteOffset := 8 }, { name := "Hash", type := 113, offset := 2, embedded := false, tag := "", pkgPath := "", byteOffset := 16 }, { name := "TFlag", type := 137, offset := 3, embedded := false, tag := "", pkgPath := "", byteOffset := 20 }, { name := "Align_", type := 5, offset := 4, embedded := false, tag := "", pkgPath := "", byteOffset := 21 }, { name := "FieldAlign_", type := 5, offset := 5, embedded := false, tag := "", pkgPath := "", byteOffset := 22 }, { name := "Kind_", type := 138, offset := 6, embedded := false, tag := "", pkgPath := "", byteOffset := 23 }, { name := "Equal", type := 139, offset := 7, embedded := false, tag := "", pkgPath := "", byteOffset := 24 }, { name := "GCData", type := 140, offset := 8, embedded := false, tag := "", pkgPath := "", byteOffset := 32 }, { name := "Str", type := 141, offset := 9, embedded := false, tag := "", pkgPath := "", byteOffset := 40 }, { name := "PtrToThis", type := 142, offset := 10, embedded := false, tag := "", pkgPath := "", byteOffset := 44 }] }
theorem ty143 : TyOk Tryz.prog 143 ti143 := ⟨by kernel_rfl, by kernel_rfl⟩
def ti144 : TI := { sz := 11, by' := 48, zero := [.int .u64 0, .int .u64 0, .int .u32 0, .int .u8 0, .int .u8 0, .int .u8 0, .int .u8 0, .nilFunc, .pointer none, .int .i32 0, .int .i32 0], ud := .struct #[{ name := "Size_", type := 12, offset := 0, embedded := false, tag := "", pkgPath := "", byteOffset := 0 }, { name := "PtrBytes", type := 12, offset := 1, embedded := false, tag := "", pkgPath := "", byteOffset := 8 }, { name := "Hash", type := 113, offset := 2, embedded := false, tag := "", pkgPath := "", byteOffset := 16 }, { name := "TFlag", type := 137, offset := 3, embedded := false, tag := "", pkgPath := "", byteOffset := 20 }, { name := "Align_", type := 5, offset := 4, embedded := false, tag := "", pkgPath := "", byteOffset := 21 }, { name := "FieldAlign_", type := 5, offset := 5, embedded := false, tag := "", pkgPath := "", byteOffset := 22 }, { name := "Kind_", type := 138, offset := 6, embedded := false, tag := "", pkgPath := "", byteOffset := 23 }, { name := "Equal", type := 139, offset := 7, embedded := false, tag := "", pkgPath := "", byteOffset := 24 }, { name := "GCData", type := 140, offset := 8, embedded := false, tag := "", pkgPath := "", byteOffset := 32 }, { name := "Str", type := 141, offset := 9, embedded := false, tag := "", pkgPath := "", byteOffset := 40 }, { name := "PtrToThis", type := 142, offset := 10, embedded := false, tag := "", pkgPath := "", byteOffset := 44 }] }
theorem ty144 : TyOk Tryz.prog 144 ti144 := ⟨by kernel_rfl, by kernel_rfl⟩
def tab : List (Nat × TI) := [(1, ti1), (2, ti2), (3, ti3), (4, ti4), (5, ti5), (6, ti6), (7, ti7), (8, ti8), (9, ti9), (10, ti10), (11, ti11), (12, ti12), (13, ti13), (14, ti14), (15, ti15), (16, ti16), (17, ti17), (18, ti18), (19, ti19), (21, ti21), (22, ti22), (23, ti23), (24, ti24), (25, ti25), (26, ti26), (28, ti28), (30, ti30), (31, ti31), (32, ti32), (33, ti33), (35, ti35), (36, ti36), (38, ti38), (39, ti39), (40, ti40), (41, ti41), (42, ti42), (44, ti44), (45, ti45), (46, ti46), (47, ti47), (48, ti48), (49, ti49), (50, ti50), (51, ti51), (52, ti52), (53, ti53), (54, ti54), (55, ti55), (56, ti56), (57, ti57), (58, ti58), (59, ti59), (60, ti60), (61, ti61), (62, ti62), (63, ti63), (64, ti64), (65, ti65), (66, ti66), (67, ti67), (68, ti68), (69, ti69), (70, ti70), (71, ti71), (72, ti72), (73, ti73), (74, ti74), (75, ti75), (76, ti76), (77, ti77), (78, ti78), (79, ti79), (80, ti80), (81, ti81), (82, ti82), (83, ti83), (84, ti84), (85, ti85), (86, ti86), (87, ti87), (88, ti88), (89, ti89), (90, ti90), (91, ti91), (92, ti92), (93, ti93), (94, ti94), (95, ti95), (96, ti96), (97, ti97), (98, ti98), (99, ti99), (100, ti100), (101, ti101), (102, ti102), (103, ti103), (104, ti104), (106, ti106), (107, ti107), (108, ti108), (109, ti109), (111, ti111), (112, ti112), (113, ti113), (114, ti114), (115, ti115), (116, ti116), (117, ti117), (118, ti118), (119, ti119), (120, ti120), (121, ti121), (122, ti122), (123, ti123), (124, ti124), (125, ti125), (126, ti126), (127, ti127), (129, ti129), (130, ti130), (131, ti131), (132, ti132), (136, ti136), (137, ti137), (138, ti138), (139, ti139), (140, ti140), (141, ti141), (142, ti142), (143, ti143), (144, ti144)]
theorem tab_ok : ∀ e ∈ tab, TyOk Tryz.prog e.1 e.2 := by
  unfold tab
  refine List.forall_mem_cons.2 ⟨ty1, ?_⟩
  refine List.forall_mem_cons.2 ⟨ty2, ?_⟩
  refine List.forall_mem_cons.2 ⟨ty3, ?_⟩
  refine List.forall_mem_cons.2 ⟨ty4, ?_⟩
  refine List.forall_mem_cons.2 ⟨ty5, ?_⟩
  refine List.forall_mem_cons.2 ⟨ty6, ?_⟩
  refine List.forall_mem_cons.2 ⟨ty7, ?_⟩
  refine List.forall_mem_cons.2 ⟨ty8, ?_⟩
  refine List.forall_mem_cons.2 ⟨ty9, ?_⟩
  refine List.forall_mem_cons.2 ⟨ty10, ?_⟩
  refine List.forall_mem_cons.2 ⟨ty11, ?_⟩
  refine List.forall_mem_cons.2 ⟨ty12, ?_⟩
  refine List.forall_mem_cons.2 ⟨ty13, ?_⟩
  refine List.forall_mem_cons.2 ⟨ty14, ?_⟩
  refine List.forall_mem_cons.2 ⟨ty15, ?_⟩
  refine List.forall_mem_cons.2 ⟨ty16, ?_⟩
  refine List.forall_mem_cons.2 ⟨ty17, ?_⟩
  refine List.forall_mem_cons.2 ⟨ty18, ?_⟩
  refine List.forall_mem_cons.2 ⟨ty19, ?_⟩
  refine List.forall_mem_cons.2 ⟨ty21, ?_⟩
  refine List.forall_mem_cons.2 ⟨ty22, ?_⟩
  refine List.forall_mem_cons.2 ⟨ty23, ?_⟩
  refine List.forall_mem_cons.2 ⟨ty24, ?_⟩
  refine List.forall_mem_cons.2 ⟨ty25, ?_⟩
  refine List.forall_mem_cons.2 ⟨ty26, ?_⟩
  refine List.forall_mem_cons.2 ⟨ty28, ?_⟩
  refine List.forall_mem_cons.2 ⟨ty30, ?_⟩
  refine List.forall_mem_cons.2 ⟨ty31, ?_⟩
  refine List.forall_mem_cons.2 ⟨ty32, ?_⟩
  refine List.forall_mem_cons.2 ⟨ty33, ?_⟩
  refine List.forall_mem_cons.2 ⟨ty35, ?_⟩
  refine List.forall_mem_cons.2 ⟨ty36, ?_⟩
  refine List.forall_mem_cons.2 ⟨ty38, ?_⟩
  refine List.forall_mem_cons.2 ⟨ty39, ?_⟩
  refine List.forall_mem_cons.2 ⟨ty40, ?_⟩
  refine List.forall_mem_cons.2 ⟨ty41, ?_⟩
  refine List.forall_mem_cons.2 ⟨ty42, ?_⟩
  refine List.forall_mem_cons.2 ⟨ty44, ?_⟩
  refine List.forall_mem_cons.2 ⟨ty45, ?_⟩
  refine List.forall_mem_cons.2 ⟨ty46, ?_⟩
  refine List.forall_mem_cons.2 ⟨ty47, ?_⟩
  refine List.forall_mem_cons.2 ⟨ty48, ?_⟩
  refine List.forall_mem_cons.2 ⟨ty49, ?_⟩
  refine List.forall_mem_cons.2 ⟨ty50, ?_⟩
  refine List.forall_mem_cons.2 ⟨ty51, ?_⟩
  refine List.forall_mem_cons.2 ⟨ty52, ?_⟩
  refine List.forall_mem_cons.2 ⟨ty53, ?_⟩
  refine List.forall_mem_cons.2 ⟨ty54, ?_⟩
  refine List.forall_mem_cons.2 ⟨ty55, ?_⟩
  refine List.forall_mem_cons.2 ⟨ty56, ?_⟩
  refine List.forall_mem_cons.2 ⟨ty57, ?_⟩
  refine List.forall_mem_cons.2 ⟨ty58, ?_⟩
  refine List.forall_mem_cons.2 ⟨ty59, ?_⟩
  refine List.forall_mem_cons.2 ⟨ty60, ?_⟩
  refine List.forall_mem_cons.2 ⟨ty61, ?_⟩
  refine List.forall_mem_cons.2 ⟨ty62, ?_⟩
  refine List.forall_mem_cons.2 ⟨ty63, ?_⟩
  refine List.forall_mem_cons.2 ⟨ty64, ?_⟩
  refine List.forall_mem_cons.2 ⟨ty65, ?_⟩
  refine List.forall_mem_cons.2 ⟨ty66, ?_⟩
  refine List.forall_mem_cons.2 ⟨ty67, ?_⟩
  refine List.forall_mem_cons.2 ⟨ty68, ?_⟩
  refine List.forall_mem_cons.2 ⟨ty69, ?_⟩
  refine List.forall_mem_cons.2 ⟨ty70, ?_⟩
  refine List.forall_mem_cons.2 ⟨ty71, ?_⟩
  refine List.forall_mem_cons.2 ⟨ty72, ?_⟩
  refine List.forall_mem_cons.2 ⟨ty73, ?_⟩
  refine List.forall_mem_cons.2 ⟨ty74, ?_⟩
  refine List.forall_mem_cons.2 ⟨ty75, ?_⟩
  refine List.forall_mem_cons.2 ⟨ty76, ?_⟩
  refine List.forall_mem_cons.2 ⟨ty77, ?_⟩
  refine List.forall_mem_cons.2 ⟨ty78, ?_⟩
  refine List.forall_mem_cons.2 ⟨ty79, ?_⟩
  refine List.forall_mem_cons.2 ⟨ty80, ?_⟩
  refine List.forall_mem_cons.2 ⟨ty81, ?_⟩
  refine List.forall_mem_cons.2 ⟨ty82, ?_⟩
  refine List.forall_mem_cons.2 ⟨ty83, ?_⟩
  refine List.forall_mem_cons.2 ⟨ty84, ?_⟩
  refine List.forall_mem_cons.2 ⟨ty85, ?_⟩
  refine List.forall_mem_cons.2 ⟨ty86, ?_⟩
  refine List.forall_mem_cons.2 ⟨ty87, ?_⟩
  refine List.forall_mem_cons.2 ⟨ty88, ?_⟩
  refine List.forall_mem_cons.2 ⟨ty89, ?_⟩
  refine List.forall_mem_cons.2 ⟨ty90, ?_⟩
  refine List.forall_mem_cons.2 ⟨ty91, ?_⟩
  refine List.forall_mem_cons.2 ⟨ty92, ?_⟩
  refine List.forall_mem_cons.2 ⟨ty93, ?_⟩
  refine List.forall_mem_cons.2 ⟨ty94, ?_⟩
  refine List.forall_mem_cons.2 ⟨ty95, ?_⟩
  refine List.forall_mem_cons.2 ⟨ty96, ?_⟩
  refine List.forall_mem_cons.2 ⟨ty97, ?_⟩
  refine List.forall_mem_cons.2 ⟨ty98, ?_⟩
  refine List.forall_mem_cons.2 ⟨ty99, ?_⟩
  refine List.forall_mem_cons.2 ⟨ty100, ?_⟩
  refine List.forall_mem_cons.2 ⟨ty101, ?_⟩
  refine List.forall_mem_cons.2 ⟨ty102, ?_⟩
  refine List.forall_mem_cons.2 ⟨ty103, ?_⟩
  refine List.forall_mem_cons.2 ⟨ty104, ?_⟩
  refine List.forall_mem_cons.2 ⟨ty106, ?_⟩
  refine List.forall_mem_cons.2 ⟨ty107, ?_⟩
  refine List.forall_mem_cons.2 ⟨ty108, ?_⟩
  refine List.forall_mem_cons.2 ⟨ty109, ?_⟩
  refine List.forall_mem_cons.2 ⟨ty111, ?_⟩
  refine List.forall_mem_cons.2 ⟨ty112, ?_⟩
  refine List.forall_mem_cons.2 ⟨ty113, ?_⟩
  refine List.forall_mem_cons.2 ⟨ty114, ?_⟩
  refine List.forall_mem_cons.2 ⟨ty115, ?_⟩
  refine List.forall_mem_cons.2 ⟨ty116, ?_⟩
  refine List.forall_mem_cons.2 ⟨ty117, ?_⟩
  refine List.forall_mem_cons.2 ⟨ty118, ?_⟩
  refine List.forall_mem_cons.2 ⟨ty119, ?_⟩
  refine List.forall_mem_cons.2 ⟨ty120, ?_⟩
  refine List.forall_mem_cons.2 ⟨ty121, ?_⟩
  refine List.forall_mem_cons.2 ⟨ty122, ?_⟩
  refine List.forall_mem_cons.2 ⟨ty123, ?_⟩
  refine List.forall_mem_cons.2 ⟨ty124, ?_⟩
  refine List.forall_mem_cons.2 ⟨ty125, ?_⟩
  refine List.forall_mem_cons.2 ⟨ty126, ?_⟩
  refine List.forall_mem_cons.2 ⟨ty127, ?_⟩
  refine List.forall_mem_cons.2 ⟨ty129, ?_⟩
  refine List.forall_mem_cons.2 ⟨ty130, ?_⟩
  refine List.forall_mem_cons.2 ⟨ty131, ?_⟩
  refine List.forall_mem_cons.2 ⟨ty132, ?_⟩
  refine List.forall_mem_cons.2 ⟨ty136, ?_⟩
  refine List.forall_mem_cons.2 ⟨ty137, ?_⟩
  refine List.forall_mem_cons.2 ⟨ty138, ?_⟩
  refine List.forall_mem_cons.2 ⟨ty139, ?_⟩
  refine List.forall_mem_cons.2 ⟨ty140, ?_⟩
  refine List.forall_mem_cons.2 ⟨ty141, ?_⟩
  refine List.forall_mem_cons.2 ⟨ty142, ?_⟩
  refine List.forall_mem_cons.2 ⟨ty143, ?_⟩
  refine List.forall_mem_cons.2 ⟨ty144, ?_⟩
  simp
def tys : Nat → Option TI := lookT tab
theorem tys_ok : ∀ t i, tys t = some i → TyOk Tryz.prog t i := lookT_ok tab_ok
end Go.Proofs.YtcfkdcjindhnjaaGreat
