/- The seat's types, as the av texts know them. Written by a program (wip/tools/tys.py). -/
import Derived.Test.YtlccbfdeonmljaaMA
import Derived.Test.YtlccbfdeonmljaaProg
namespace Go.Proofs.Ytlccbfdeonmljaa
open Go Go.Av

def ti1 : TI := { sz := 1, by' := 8, zero := [.nilFunc], ud := .func #[] #[] false }
theorem ty1 : TyOk Try.prog 1 ti1 := ⟨by kernel_rfl, by kernel_rfl⟩
def ti2 : TI := { sz := 1, by' := 8, zero := [.int .i64 0], ud := .int .i64 }
theorem ty2 : TyOk Try.prog 2 ti2 := ⟨by kernel_rfl, by kernel_rfl⟩
def ti3 : TI := { sz := 1, by' := 8, zero := [.int .i64 0], ud := .int .i64 }
theorem ty3 : TyOk Try.prog 3 ti3 := ⟨by kernel_rfl, by kernel_rfl⟩
def ti4 : TI := { sz := 1, by' := 1, zero := [.bool false], ud := .bool }
theorem ty4 : TyOk Try.prog 4 ti4 := ⟨by kernel_rfl, by kernel_rfl⟩
def ti5 : TI := { sz := 1, by' := 1, zero := [.int .u8 0], ud := .int .u8 }
theorem ty5 : TyOk Try.prog 5 ti5 := ⟨by kernel_rfl, by kernel_rfl⟩
def ti6 : TI := { sz := 1, by' := 1, zero := [.int .u8 0], ud := .int .u8 }
theorem ty6 : TyOk Try.prog 6 ti6 := ⟨by kernel_rfl, by kernel_rfl⟩
def ti7 : TI := { sz := 4, by' := 24, zero := [.int .i64 0, .int .i64 0, .bool false, .int .u8 0], ud := .struct #[{ name := "x", type := 2, offset := 0, embedded := false, tag := "", pkgPath := "runtime", byteOffset := 0 }, { name := "y", type := 3, offset := 1, embedded := false, tag := "", pkgPath := "runtime", byteOffset := 8 }, { name := "signed", type := 4, offset := 2, embedded := false, tag := "", pkgPath := "runtime", byteOffset := 16 }, { name := "code", type := 6, offset := 3, embedded := false, tag := "", pkgPath := "runtime", byteOffset := 17 }] }
theorem ty7 : TyOk Try.prog 7 ti7 := ⟨by kernel_rfl, by kernel_rfl⟩
def ti8 : TI := { sz := 4, by' := 24, zero := [.int .i64 0, .int .i64 0, .bool false, .int .u8 0], ud := .struct #[{ name := "x", type := 2, offset := 0, embedded := false, tag := "", pkgPath := "runtime", byteOffset := 0 }, { name := "y", type := 3, offset := 1, embedded := false, tag := "", pkgPath := "runtime", byteOffset := 8 }, { name := "signed", type := 4, offset := 2, embedded := false, tag := "", pkgPath := "runtime", byteOffset := 16 }, { name := "code", type := 6, offset := 3, embedded := false, tag := "", pkgPath := "runtime", byteOffset := 17 }] }
theorem ty8 : TyOk Try.prog 8 ti8 := ⟨by kernel_rfl, by kernel_rfl⟩
def ti9 : TI := { sz := 1, by' := 16, zero := [.string .empty], ud := .string }
theorem ty9 : TyOk Try.prog 9 ti9 := ⟨by kernel_rfl, by kernel_rfl⟩
def ti10 : TI := { sz := 1, by' := 16, zero := [.string .empty], ud := .string }
theorem ty10 : TyOk Try.prog 10 ti10 := ⟨by kernel_rfl, by kernel_rfl⟩
def ti11 : TI := { sz := 1, by' := 16, zero := [.string .empty], ud := .string }
theorem ty11 : TyOk Try.prog 11 ti11 := ⟨by kernel_rfl, by kernel_rfl⟩
def ti12 : TI := { sz := 1, by' := 8, zero := [.int .u64 0], ud := .int .u64 }
theorem ty12 : TyOk Try.prog 12 ti12 := ⟨by kernel_rfl, by kernel_rfl⟩
def ti13 : TI := { sz := 2, by' := 24, zero := [.string .empty, .int .u64 0], ud := .struct #[{ name := "msg", type := 9, offset := 0, embedded := false, tag := "", pkgPath := "runtime", byteOffset := 0 }, { name := "addr", type := 12, offset := 1, embedded := false, tag := "", pkgPath := "runtime", byteOffset := 16 }] }
theorem ty13 : TyOk Try.prog 13 ti13 := ⟨by kernel_rfl, by kernel_rfl⟩
def ti14 : TI := { sz := 2, by' := 24, zero := [.string .empty, .int .u64 0], ud := .struct #[{ name := "msg", type := 9, offset := 0, embedded := false, tag := "", pkgPath := "runtime", byteOffset := 0 }, { name := "addr", type := 12, offset := 1, embedded := false, tag := "", pkgPath := "runtime", byteOffset := 16 }] }
theorem ty14 : TyOk Try.prog 14 ti14 := ⟨by kernel_rfl, by kernel_rfl⟩
def ti15 : TI := { sz := 1, by' := 8, zero := [.pointer none], ud := .pointer 128 }
theorem ty15 : TyOk Try.prog 15 ti15 := ⟨by kernel_rfl, by kernel_rfl⟩
def ti16 : TI := { sz := 1, by' := 8, zero := [.pointer none], ud := .pointer 131 }
theorem ty16 : TyOk Try.prog 16 ti16 := ⟨by kernel_rfl, by kernel_rfl⟩
def ti17 : TI := { sz := 1, by' := 8, zero := [.pointer none], ud := .pointer 141 }
theorem ty17 : TyOk Try.prog 17 ti17 := ⟨by kernel_rfl, by kernel_rfl⟩
def ti18 : TI := { sz := 1, by' := 8, zero := [.pointer none], ud := .struct #[{ name := "typ", type := 17, offset := 0, embedded := false, tag := "", pkgPath := "internal/runtime/maps", byteOffset := 0 }] }
theorem ty18 : TyOk Try.prog 18 ti18 := ⟨by kernel_rfl, by kernel_rfl⟩
def ti19 : TI := { sz := 1, by' := 8, zero := [.pointer none], ud := .struct #[{ name := "typ", type := 17, offset := 0, embedded := false, tag := "", pkgPath := "internal/runtime/maps", byteOffset := 0 }] }
theorem ty19 : TyOk Try.prog 19 ti19 := ⟨by kernel_rfl, by kernel_rfl⟩
def ti21 : TI := { sz := 1, by' := 4, zero := [.int .i32 0], ud := .int .i32 }
theorem ty21 : TyOk Try.prog 21 ti21 := ⟨by kernel_rfl, by kernel_rfl⟩
def ti22 : TI := { sz := 1, by' := 24, zero := [.slice none 0 0], ud := .slice 5 }
theorem ty22 : TyOk Try.prog 22 ti22 := ⟨by kernel_rfl, by kernel_rfl⟩
def ti23 : TI := { sz := 1, by' := 8, zero := [.nilFunc], ud := .func #[22, 22] #[4] false }
theorem ty23 : TyOk Try.prog 23 ti23 := ⟨by kernel_rfl, by kernel_rfl⟩
def ti24 : TI := { sz := 1, by' := 2, zero := [.int .i16 0], ud := .int .i16 }
theorem ty24 : TyOk Try.prog 24 ti24 := ⟨by kernel_rfl, by kernel_rfl⟩
def ti25 : TI := { sz := 1, by' := 24, zero := [.slice none 0 0], ud := .slice 48 }
theorem ty25 : TyOk Try.prog 25 ti25 := ⟨by kernel_rfl, by kernel_rfl⟩
def ti26 : TI := { sz := 2, by' := 32, zero := [.int .i16 0, .slice none 0 0], ud := .struct #[{ name := "Day", type := 24, offset := 0, embedded := false, tag := "", pkgPath := "", byteOffset := 0 }, { name := "Copies", type := 25, offset := 1, embedded := false, tag := "", pkgPath := "", byteOffset := 8 }] }
theorem ty26 : TyOk Try.prog 26 ti26 := ⟨by kernel_rfl, by kernel_rfl⟩
def ti27 : TI := { sz := 2, by' := 32, zero := [.int .i16 0, .slice none 0 0], ud := .struct #[{ name := "Day", type := 24, offset := 0, embedded := false, tag := "", pkgPath := "", byteOffset := 0 }, { name := "Copies", type := 25, offset := 1, embedded := false, tag := "", pkgPath := "", byteOffset := 8 }] }
theorem ty27 : TyOk Try.prog 27 ti27 := ⟨by kernel_rfl, by kernel_rfl⟩
def ti28 : TI := { sz := 1, by' := 8, zero := [.nilFunc], ud := .func #[22] #[27] false }
theorem ty28 : TyOk Try.prog 28 ti28 := ⟨by kernel_rfl, by kernel_rfl⟩
def ti29 : TI := { sz := 1, by' := 24, zero := [.slice none 0 0], ud := .slice 36 }
theorem ty29 : TyOk Try.prog 29 ti29 := ⟨by kernel_rfl, by kernel_rfl⟩
def ti30 : TI := { sz := 1, by' := 8, zero := [.nilFunc], ud := .func #[22] #[29] false }
theorem ty30 : TyOk Try.prog 30 ti30 := ⟨by kernel_rfl, by kernel_rfl⟩
def ti31 : TI := { sz := 1, by' := 8, zero := [.nilFunc], ud := .func #[27] #[4] false }
theorem ty31 : TyOk Try.prog 31 ti31 := ⟨by kernel_rfl, by kernel_rfl⟩
def ti33 : TI := { sz := 1, by' := 8, zero := [.nilFunc], ud := .func #[27, 36] #[27, 2, 2] false }
theorem ty33 : TyOk Try.prog 33 ti33 := ⟨by kernel_rfl, by kernel_rfl⟩
def ti34 : TI := { sz := 1, by' := 1, zero := [.int .i8 0], ud := .int .i8 }
theorem ty34 : TyOk Try.prog 34 ti34 := ⟨by kernel_rfl, by kernel_rfl⟩
def ti35 : TI := { sz := 3, by' := 3, zero := [.int .i8 0, .int .i8 0, .int .i8 0], ud := .struct #[{ name := "What", type := 34, offset := 0, embedded := false, tag := "", pkgPath := "", byteOffset := 0 }, { name := "Who", type := 34, offset := 1, embedded := false, tag := "", pkgPath := "", byteOffset := 1 }, { name := "Book", type := 34, offset := 2, embedded := false, tag := "", pkgPath := "", byteOffset := 2 }] }
theorem ty35 : TyOk Try.prog 35 ti35 := ⟨by kernel_rfl, by kernel_rfl⟩
def ti36 : TI := { sz := 3, by' := 3, zero := [.int .i8 0, .int .i8 0, .int .i8 0], ud := .struct #[{ name := "What", type := 34, offset := 0, embedded := false, tag := "", pkgPath := "", byteOffset := 0 }, { name := "Who", type := 34, offset := 1, embedded := false, tag := "", pkgPath := "", byteOffset := 1 }, { name := "Book", type := 34, offset := 2, embedded := false, tag := "", pkgPath := "", byteOffset := 2 }] }
theorem ty36 : TyOk Try.prog 36 ti36 := ⟨by kernel_rfl, by kernel_rfl⟩
def ti37 : TI := { sz := 1, by' := 8, zero := [.nilFunc], ud := .func #[27, 27] #[4] false }
theorem ty37 : TyOk Try.prog 37 ti37 := ⟨by kernel_rfl, by kernel_rfl⟩
def ti38 : TI := { sz := 3, by' := 24, zero := [.int .i64 0, .int .i64 0, .int .i64 0], ud := .array 3 2 }
theorem ty38 : TyOk Try.prog 38 ti38 := ⟨by kernel_rfl, by kernel_rfl⟩
def ti40 : TI := { sz := 1, by' := 8, zero := [.nilFunc], ud := .func #[27] #[38, 2] false }
theorem ty40 : TyOk Try.prog 40 ti40 := ⟨by kernel_rfl, by kernel_rfl⟩
def ti41 : TI := { sz := 1, by' := 24, zero := [.slice none 0 0], ud := .slice 2 }
theorem ty41 : TyOk Try.prog 41 ti41 := ⟨by kernel_rfl, by kernel_rfl⟩
def ti43 : TI := { sz := 1, by' := 8, zero := [.nilFunc], ud := .func #[27] #[41, 2] false }
theorem ty43 : TyOk Try.prog 43 ti43 := ⟨by kernel_rfl, by kernel_rfl⟩
def ti44 : TI := { sz := 1, by' := 8, zero := [.nilFunc], ud := .func #[27, 2] #[41, 2] false }
theorem ty44 : TyOk Try.prog 44 ti44 := ⟨by kernel_rfl, by kernel_rfl⟩
def ti45 : TI := { sz := 1, by' := 8, zero := [.nilFunc], ud := .func #[41, 41] #[4] false }
theorem ty45 : TyOk Try.prog 45 ti45 := ⟨by kernel_rfl, by kernel_rfl⟩
def ti46 : TI := { sz := 1, by' := 24, zero := [.slice none 0 0], ud := .slice 34 }
theorem ty46 : TyOk Try.prog 46 ti46 := ⟨by kernel_rfl, by kernel_rfl⟩
def ti47 : TI := { sz := 5, by' := 32, zero := [.int .i8 0, .int .i8 0, .int .i16 0, .int .i8 0, .slice none 0 0], ud := .struct #[{ name := "State", type := 34, offset := 0, embedded := false, tag := "", pkgPath := "", byteOffset := 0 }, { name := "Who", type := 34, offset := 1, embedded := false, tag := "", pkgPath := "", byteOffset := 1 }, { name := "Due", type := 24, offset := 2, embedded := false, tag := "", pkgPath := "", byteOffset := 2 }, { name := "Renewals", type := 34, offset := 3, embedded := false, tag := "", pkgPath := "", byteOffset := 4 }, { name := "Queue", type := 46, offset := 4, embedded := false, tag := "", pkgPath := "", byteOffset := 8 }] }
theorem ty47 : TyOk Try.prog 47 ti47 := ⟨by kernel_rfl, by kernel_rfl⟩
def ti48 : TI := { sz := 5, by' := 32, zero := [.int .i8 0, .int .i8 0, .int .i16 0, .int .i8 0, .slice none 0 0], ud := .struct #[{ name := "State", type := 34, offset := 0, embedded := false, tag := "", pkgPath := "", byteOffset := 0 }, { name := "Who", type := 34, offset := 1, embedded := false, tag := "", pkgPath := "", byteOffset := 1 }, { name := "Due", type := 24, offset := 2, embedded := false, tag := "", pkgPath := "", byteOffset := 2 }, { name := "Renewals", type := 34, offset := 3, embedded := false, tag := "", pkgPath := "", byteOffset := 4 }, { name := "Queue", type := 46, offset := 4, embedded := false, tag := "", pkgPath := "", byteOffset := 8 }] }
theorem ty48 : TyOk Try.prog 48 ti48 := ⟨by kernel_rfl, by kernel_rfl⟩
def ti49 : TI := { sz := 1, by' := 8, zero := [.nilFunc], ud := .func #[41, 2] #[4] false }
theorem ty49 : TyOk Try.prog 49 ti49 := ⟨by kernel_rfl, by kernel_rfl⟩
def ti51 : TI := { sz := 1, by' := 8, zero := [.nilFunc], ud := .func #[27, 2, 2] #[4, 2] false }
theorem ty51 : TyOk Try.prog 51 ti51 := ⟨by kernel_rfl, by kernel_rfl⟩
def ti53 : TI := { sz := 1, by' := 8, zero := [.nilFunc], ud := .func #[27, 2, 2] #[2, 2] false }
theorem ty53 : TyOk Try.prog 53 ti53 := ⟨by kernel_rfl, by kernel_rfl⟩
def ti54 : TI := { sz := 1, by' := 8, zero := [.nilFunc], ud := .func #[27, 2] #[2, 2] false }
theorem ty54 : TyOk Try.prog 54 ti54 := ⟨by kernel_rfl, by kernel_rfl⟩
def ti56 : TI := { sz := 1, by' := 8, zero := [.nilFunc], ud := .func #[27] #[2, 2, 2] false }
theorem ty56 : TyOk Try.prog 56 ti56 := ⟨by kernel_rfl, by kernel_rfl⟩
def ti57 : TI := { sz := 1, by' := 8, zero := [.nilFunc], ud := .func #[58] #[27] false }
theorem ty57 : TyOk Try.prog 57 ti57 := ⟨by kernel_rfl, by kernel_rfl⟩
def ti58 : TI := { sz := 1, by' := 8, zero := [.pointer none], ud := .pointer 99 }
theorem ty58 : TyOk Try.prog 58 ti58 := ⟨by kernel_rfl, by kernel_rfl⟩
def ti59 : TI := { sz := 1, by' := 8, zero := [.nilFunc], ud := .func #[22] #[58] false }
theorem ty59 : TyOk Try.prog 59 ti59 := ⟨by kernel_rfl, by kernel_rfl⟩
def ti60 : TI := { sz := 1, by' := 8, zero := [.nilFunc], ud := .func #[2] #[2] false }
theorem ty60 : TyOk Try.prog 60 ti60 := ⟨by kernel_rfl, by kernel_rfl⟩
def ti61 : TI := { sz := 1, by' := 8, zero := [.nilFunc], ud := .func #[58] #[36] false }
theorem ty61 : TyOk Try.prog 61 ti61 := ⟨by kernel_rfl, by kernel_rfl⟩
def ti62 : TI := { sz := 1, by' := 8, zero := [.nilFunc], ud := .func #[24, 24, 24] #[4] false }
theorem ty62 : TyOk Try.prog 62 ti62 := ⟨by kernel_rfl, by kernel_rfl⟩
def ti63 : TI := { sz := 1, by' := 8, zero := [.nilFunc], ud := .func #[25, 65] #[4] false }
theorem ty63 : TyOk Try.prog 63 ti63 := ⟨by kernel_rfl, by kernel_rfl⟩
def ti64 : TI := { sz := 1, by' := 8, zero := [.nilFunc], ud := .func #[24] #[4] false }
theorem ty64 : TyOk Try.prog 64 ti64 := ⟨by kernel_rfl, by kernel_rfl⟩
def ti65 : TI := { sz := 1, by' := 8, zero := [.nilFunc], ud := .func #[48] #[4] false }
theorem ty65 : TyOk Try.prog 65 ti65 := ⟨by kernel_rfl, by kernel_rfl⟩
def ti66 : TI := { sz := 1, by' := 8, zero := [.nilFunc], ud := .func #[67, 70] #[4] false }
theorem ty66 : TyOk Try.prog 66 ti66 := ⟨by kernel_rfl, by kernel_rfl⟩
def ti67 : TI := { sz := 1, by' := 24, zero := [.slice none 0 0], ud := .slice 3 }
theorem ty67 : TyOk Try.prog 67 ti67 := ⟨by kernel_rfl, by kernel_rfl⟩
def ti68 : TI := { sz := 1, by' := 8, zero := [.nilFunc], ud := .func #[3] #[67] false }
theorem ty68 : TyOk Try.prog 68 ti68 := ⟨by kernel_rfl, by kernel_rfl⟩
def ti69 : TI := { sz := 1, by' := 8, zero := [.nilFunc], ud := .func #[34] #[41] false }
theorem ty69 : TyOk Try.prog 69 ti69 := ⟨by kernel_rfl, by kernel_rfl⟩
def ti70 : TI := { sz := 1, by' := 8, zero := [.nilFunc], ud := .func #[3] #[4] false }
theorem ty70 : TyOk Try.prog 70 ti70 := ⟨by kernel_rfl, by kernel_rfl⟩
def ti71 : TI := { sz := 1, by' := 8, zero := [.nilFunc], ud := .func #[36] #[27, 2, 2] false }
theorem ty71 : TyOk Try.prog 71 ti71 := ⟨by kernel_rfl, by kernel_rfl⟩
def ti72 : TI := { sz := 1, by' := 8, zero := [.nilFunc], ud := .func #[73] #[4] false }
theorem ty72 : TyOk Try.prog 72 ti72 := ⟨by kernel_rfl, by kernel_rfl⟩
def ti73 : TI := { sz := 1, by' := 8, zero := [.pointer none], ud := .pointer 27 }
theorem ty73 : TyOk Try.prog 73 ti73 := ⟨by kernel_rfl, by kernel_rfl⟩
def ti74 : TI := { sz := 1, by' := 8, zero := [.nilFunc], ud := .func #[73, 36] #[27, 2, 2] false }
theorem ty74 : TyOk Try.prog 74 ti74 := ⟨by kernel_rfl, by kernel_rfl⟩
def ti75 : TI := { sz := 1, by' := 8, zero := [.nilFunc], ud := .func #[25, 25, 77] #[4] false }
theorem ty75 : TyOk Try.prog 75 ti75 := ⟨by kernel_rfl, by kernel_rfl⟩
def ti76 : TI := { sz := 1, by' := 8, zero := [.nilFunc], ud := .func #[46, 46] #[4] false }
theorem ty76 : TyOk Try.prog 76 ti76 := ⟨by kernel_rfl, by kernel_rfl⟩
def ti77 : TI := { sz := 1, by' := 8, zero := [.nilFunc], ud := .func #[48, 48] #[4] false }
theorem ty77 : TyOk Try.prog 77 ti77 := ⟨by kernel_rfl, by kernel_rfl⟩
def ti78 : TI := { sz := 1, by' := 8, zero := [.nilFunc], ud := .func #[65] #[41] false }
theorem ty78 : TyOk Try.prog 78 ti78 := ⟨by kernel_rfl, by kernel_rfl⟩
def ti79 : TI := { sz := 1, by' := 8, zero := [.nilFunc], ud := .func #[27, 2] #[2] false }
theorem ty79 : TyOk Try.prog 79 ti79 := ⟨by kernel_rfl, by kernel_rfl⟩
def ti80 : TI := { sz := 1, by' := 8, zero := [.nilFunc], ud := .func #[34] #[4] false }
theorem ty80 : TyOk Try.prog 80 ti80 := ⟨by kernel_rfl, by kernel_rfl⟩
def ti81 : TI := { sz := 1, by' := 8, zero := [.nilFunc], ud := .func #[46, 34] #[4] false }
theorem ty81 : TyOk Try.prog 81 ti81 := ⟨by kernel_rfl, by kernel_rfl⟩
def ti82 : TI := { sz := 1, by' := 8, zero := [.nilFunc], ud := .func #[2] #[4] false }
theorem ty82 : TyOk Try.prog 82 ti82 := ⟨by kernel_rfl, by kernel_rfl⟩
def ti83 : TI := { sz := 1, by' := 8, zero := [.pointer none], ud := .pointer 48 }
theorem ty83 : TyOk Try.prog 83 ti83 := ⟨by kernel_rfl, by kernel_rfl⟩
def ti84 : TI := { sz := 1, by' := 8, zero := [.nilFunc], ud := .func #[46, 2] #[2] false }
theorem ty84 : TyOk Try.prog 84 ti84 := ⟨by kernel_rfl, by kernel_rfl⟩
def ti85 : TI := { sz := 1, by' := 8, zero := [.nilFunc], ud := .func #[27, 2, 2] #[2] false }
theorem ty85 : TyOk Try.prog 85 ti85 := ⟨by kernel_rfl, by kernel_rfl⟩
def ti86 : TI := { sz := 1, by' := 8, zero := [.nilFunc], ud := .func #[34, 48] #[4] false }
theorem ty86 : TyOk Try.prog 86 ti86 := ⟨by kernel_rfl, by kernel_rfl⟩
def ti87 : TI := { sz := 1, by' := 8, zero := [.nilFunc], ud := .func #[46, 34] #[3] false }
theorem ty87 : TyOk Try.prog 87 ti87 := ⟨by kernel_rfl, by kernel_rfl⟩
def ti88 : TI := { sz := 1, by' := 8, zero := [.nilFunc], ud := .func #[73, 2, 2] #[2] false }
theorem ty88 : TyOk Try.prog 88 ti88 := ⟨by kernel_rfl, by kernel_rfl⟩
def ti89 : TI := { sz := 1, by' := 8, zero := [.nilFunc], ud := .func #[2, 2] #[2] false }
theorem ty89 : TyOk Try.prog 89 ti89 := ⟨by kernel_rfl, by kernel_rfl⟩
def ti90 : TI := { sz := 1, by' := 8, zero := [.nilFunc], ud := .func #[48] #[2] false }
theorem ty90 : TyOk Try.prog 90 ti90 := ⟨by kernel_rfl, by kernel_rfl⟩
def ti91 : TI := { sz := 1, by' := 8, zero := [.nilFunc], ud := .func #[41, 93] #[2] false }
theorem ty91 : TyOk Try.prog 91 ti91 := ⟨by kernel_rfl, by kernel_rfl⟩
def ti92 : TI := { sz := 1, by' := 8, zero := [.nilFunc], ud := .func #[24, 24] #[3] false }
theorem ty92 : TyOk Try.prog 92 ti92 := ⟨by kernel_rfl, by kernel_rfl⟩
def ti93 : TI := { sz := 1, by' := 8, zero := [.nilFunc], ud := .func #[2, 2] #[3] false }
theorem ty93 : TyOk Try.prog 93 ti93 := ⟨by kernel_rfl, by kernel_rfl⟩
def ti95 : TI := { sz := 1, by' := 8, zero := [.nilFunc], ud := .func #[2] #[27, 2] false }
theorem ty95 : TyOk Try.prog 95 ti95 := ⟨by kernel_rfl, by kernel_rfl⟩
def ti96 : TI := { sz := 1, by' := 8, zero := [.nilFunc], ud := .func #[27, 2] #[27] false }
theorem ty96 : TyOk Try.prog 96 ti96 := ⟨by kernel_rfl, by kernel_rfl⟩
def ti97 : TI := { sz := 1, by' := 8, zero := [.int .u64 0], ud := .int .u64 }
theorem ty97 : TyOk Try.prog 97 ti97 := ⟨by kernel_rfl, by kernel_rfl⟩
def ti98 : TI := { sz := 3, by' := 40, zero := [.slice none 0 0, .int .i64 0, .int .u64 0], ud := .struct #[{ name := "code", type := 22, offset := 0, embedded := false, tag := "", pkgPath := "loop.example/g01326/spec", byteOffset := 0 }, { name := "at", type := 3, offset := 1, embedded := false, tag := "", pkgPath := "loop.example/g01326/spec", byteOffset := 24 }, { name := "seed", type := 97, offset := 2, embedded := false, tag := "", pkgPath := "loop.example/g01326/spec", byteOffset := 32 }] }
theorem ty98 : TyOk Try.prog 98 ti98 := ⟨by kernel_rfl, by kernel_rfl⟩
def ti99 : TI := { sz := 3, by' := 40, zero := [.slice none 0 0, .int .i64 0, .int .u64 0], ud := .struct #[{ name := "code", type := 22, offset := 0, embedded := false, tag := "", pkgPath := "loop.example/g01326/spec", byteOffset := 0 }, { name := "at", type := 3, offset := 1, embedded := false, tag := "", pkgPath := "loop.example/g01326/spec", byteOffset := 24 }, { name := "seed", type := 97, offset := 2, embedded := false, tag := "", pkgPath := "loop.example/g01326/spec", byteOffset := 32 }] }
theorem ty99 : TyOk Try.prog 99 ti99 := ⟨by kernel_rfl, by kernel_rfl⟩
def ti100 : TI := { sz := 1, by' := 8, zero := [.nilFunc], ud := .func #[] #[2] false }
theorem ty100 : TyOk Try.prog 100 ti100 := ⟨by kernel_rfl, by kernel_rfl⟩
def ti101 : TI := { sz := 1, by' := 8, zero := [.nilFunc], ud := .func #[41] #[2] false }
theorem ty101 : TyOk Try.prog 101 ti101 := ⟨by kernel_rfl, by kernel_rfl⟩
def ti102 : TI := { sz := 1, by' := 8, zero := [.map none], ud := .map 34 4 }
theorem ty102 : TyOk Try.prog 102 ti102 := ⟨by kernel_rfl, by kernel_rfl⟩
def ti103 : TI := { sz := 1, by' := 8, zero := [.nilFunc], ud := .func #[34, 34, 34] #[4] false }
theorem ty103 : TyOk Try.prog 103 ti103 := ⟨by kernel_rfl, by kernel_rfl⟩
def ti105 : TI := { sz := 1, by' := 8, zero := [.nilFunc], ud := .func #[] #[27, 4] false }
theorem ty105 : TyOk Try.prog 105 ti105 := ⟨by kernel_rfl, by kernel_rfl⟩
def ti106 : TI := { sz := 1, by' := 8, zero := [.nilFunc], ud := .func #[3, 3, 3] #[4] false }
theorem ty106 : TyOk Try.prog 106 ti106 := ⟨by kernel_rfl, by kernel_rfl⟩
def ti108 : TI := { sz := 1, by' := 8, zero := [.nilFunc], ud := .func #[48, 34, 34] #[48, 4] false }
theorem ty108 : TyOk Try.prog 108 ti108 := ⟨by kernel_rfl, by kernel_rfl⟩
def ti109 : TI := { sz := 1, by' := 8, zero := [.nilFunc], ud := .func #[] #[27] false }
theorem ty109 : TyOk Try.prog 109 ti109 := ⟨by kernel_rfl, by kernel_rfl⟩
def ti110 : TI := { sz := 1, by' := 8, zero := [.nilFunc], ud := .func #[46] #[46] false }
theorem ty110 : TyOk Try.prog 110 ti110 := ⟨by kernel_rfl, by kernel_rfl⟩
def ti111 : TI := { sz := 1, by' := 8, zero := [.nilFunc], ud := .func #[2, 2, 2] #[4] false }
theorem ty111 : TyOk Try.prog 111 ti111 := ⟨by kernel_rfl, by kernel_rfl⟩
def ti112 : TI := { sz := 1, by' := 8, zero := [.nilFunc], ud := .func #[83, 24] #[4] false }
theorem ty112 : TyOk Try.prog 112 ti112 := ⟨by kernel_rfl, by kernel_rfl⟩
def ti113 : TI := { sz := 1, by' := 8, zero := [.nilFunc], ud := .func #[73, 2] #[41] false }
theorem ty113 : TyOk Try.prog 113 ti113 := ⟨by kernel_rfl, by kernel_rfl⟩
def ti114 : TI := { sz := 1, by' := 8, zero := [.nilFunc], ud := .func #[73] #[27] false }
theorem ty114 : TyOk Try.prog 114 ti114 := ⟨by kernel_rfl, by kernel_rfl⟩
def ti115 : TI := { sz := 1, by' := 8, zero := [.nilFunc], ud := .func #[83, 24] #[] false }
theorem ty115 : TyOk Try.prog 115 ti115 := ⟨by kernel_rfl, by kernel_rfl⟩
def ti116 : TI := { sz := 1, by' := 8, zero := [.nilFunc], ud := .func #[73, 2, 2] #[4] false }
theorem ty116 : TyOk Try.prog 116 ti116 := ⟨by kernel_rfl, by kernel_rfl⟩
def ti117 : TI := { sz := 1, by' := 8, zero := [.nilFunc], ud := .func #[83, 24] #[2] false }
theorem ty117 : TyOk Try.prog 117 ti117 := ⟨by kernel_rfl, by kernel_rfl⟩
def ti118 : TI := { sz := 1, by' := 8, zero := [.int .u64 0], ud := .int .u64 }
theorem ty118 : TyOk Try.prog 118 ti118 := ⟨by kernel_rfl, by kernel_rfl⟩
def ti119 : TI := { sz := 1, by' := 8, zero := [.nilFunc], ud := .func #[25, 65] #[3] false }
theorem ty119 : TyOk Try.prog 119 ti119 := ⟨by kernel_rfl, by kernel_rfl⟩
def ti120 : TI := { sz := 1, by' := 8, zero := [.nilFunc], ud := .func #[67, 70] #[3] false }
theorem ty120 : TyOk Try.prog 120 ti120 := ⟨by kernel_rfl, by kernel_rfl⟩
def ti121 : TI := { sz := 1, by' := 8, zero := [.nilFunc], ud := .func #[24] #[48] false }
theorem ty121 : TyOk Try.prog 121 ti121 := ⟨by kernel_rfl, by kernel_rfl⟩
def ti122 : TI := { sz := 1, by' := 8, zero := [.nilFunc], ud := .func #[46, 80] #[46] false }
theorem ty122 : TyOk Try.prog 122 ti122 := ⟨by kernel_rfl, by kernel_rfl⟩
def ti123 : TI := { sz := 1, by' := 8, zero := [.nilFunc], ud := .func #[25, 124] #[25] false }
theorem ty123 : TyOk Try.prog 123 ti123 := ⟨by kernel_rfl, by kernel_rfl⟩
def ti124 : TI := { sz := 1, by' := 8, zero := [.nilFunc], ud := .func #[48] #[48] false }
theorem ty124 : TyOk Try.prog 124 ti124 := ⟨by kernel_rfl, by kernel_rfl⟩
def ti125 : TI := { sz := 1, by' := 8, zero := [.nilFunc], ud := .func #[46, 80] #[3] false }
theorem ty125 : TyOk Try.prog 125 ti125 := ⟨by kernel_rfl, by kernel_rfl⟩
def ti126 : TI := { sz := 1, by' := 8, zero := [.nilFunc], ud := .func #[] #[9] false }
theorem ty126 : TyOk Try.prog 126 ti126 := ⟨by kernel_rfl, by kernel_rfl⟩
def ti127 : TI := { sz := 4, by' := 40, zero := [.pointer none, .pointer none, .pointer none, .string .empty], ud := .struct #[{ name := "_interface", type := 17, offset := 0, embedded := false, tag := "", pkgPath := "runtime", byteOffset := 0 }, { name := "concrete", type := 17, offset := 1, embedded := false, tag := "", pkgPath := "runtime", byteOffset := 8 }, { name := "asserted", type := 17, offset := 2, embedded := false, tag := "", pkgPath := "runtime", byteOffset := 16 }, { name := "missingMethod", type := 9, offset := 3, embedded := false, tag := "", pkgPath := "runtime", byteOffset := 24 }] }
theorem ty127 : TyOk Try.prog 127 ti127 := ⟨by kernel_rfl, by kernel_rfl⟩
def ti128 : TI := { sz := 4, by' := 40, zero := [.pointer none, .pointer none, .pointer none, .string .empty], ud := .struct #[{ name := "_interface", type := 17, offset := 0, embedded := false, tag := "", pkgPath := "runtime", byteOffset := 0 }, { name := "concrete", type := 17, offset := 1, embedded := false, tag := "", pkgPath := "runtime", byteOffset := 8 }, { name := "asserted", type := 17, offset := 2, embedded := false, tag := "", pkgPath := "runtime", byteOffset := 16 }, { name := "missingMethod", type := 9, offset := 3, embedded := false, tag := "", pkgPath := "runtime", byteOffset := 24 }] }
theorem ty128 : TyOk Try.prog 128 ti128 := ⟨by kernel_rfl, by kernel_rfl⟩
def ti132 : TI := { sz := 1, by' := 8, zero := [.nilFunc], ud := .func #[] #[3] false }
theorem ty132 : TyOk Try.prog 132 ti132 := ⟨by kernel_rfl, by kernel_rfl⟩
def ti133 : TI := { sz := 1, by' := 4, zero := [.int .u32 0], ud := .int .u32 }
theorem ty133 : TyOk Try.prog 133 ti133 := ⟨by kernel_rfl, by kernel_rfl⟩
def ti134 : TI := { sz := 1, by' := 1, zero := [.int .u8 0], ud := .int .u8 }
theorem ty134 : TyOk Try.prog 134 ti134 := ⟨by kernel_rfl, by kernel_rfl⟩
def ti135 : TI := { sz := 1, by' := 1, zero := [.int .u8 0], ud := .int .u8 }
theorem ty135 : TyOk Try.prog 135 ti135 := ⟨by kernel_rfl, by kernel_rfl⟩
def ti136 : TI := { sz := 1, by' := 8, zero := [.nilFunc], ud := .func #[142, 142] #[4] false }
theorem ty136 : TyOk Try.prog 136 ti136 := ⟨by kernel_rfl, by kernel_rfl⟩
def ti137 : TI := { sz := 1, by' := 8, zero := [.pointer none], ud := .pointer 5 }
theorem ty137 : TyOk Try.prog 137 ti137 := ⟨by kernel_rfl, by kernel_rfl⟩
def ti138 : TI := { sz := 1, by' := 4, zero := [.int .i32 0], ud := .int .i32 }
theorem ty138 : TyOk Try.prog 138 ti138 := ⟨by kernel_rfl, by kernel_rfl⟩
def ti139 : TI := { sz := 1, by' := 4, zero := [.int .i32 0], ud := .int .i32 }
theorem ty139 : TyOk Try.prog 139 ti139 := ⟨by kernel_rfl, by kernel_rfl⟩
def ti140 : TI := { sz := 11, by' := 48, zero := [.int .u64 0, .int .u64 0, .int .u32 0, .int .u8 0, .int .u8 0, .int .u8 0, .int .u8 0, .nilFunc, .pointer none, .int .i32 0, .int .i32 0], ud := .struct #[{ name := "Size_", type := 12, offset := 0, embedded := false, tag := "", pkgPath := "", byteOffset := 0 }, { name := "PtrBytes", type := 12, offset := 1, embedded := false, tag := "", pkgPath := "", byteOffset := 8 }, { name := "Hash", type := 133, offset := 2, embedded := false, tag := "", pkgPath := "", byteOffset := 16 }, { name := "TFlag", type := 134, offset := 3, embedded := false, tag := "", pkgPath := "", byteOffset := 20 }, { name := "Align_", type := 5, offset := 4, embedded := false, tag := "", pkgPath := "", byteOffset := 21 }, { name := "FieldAlign_", type := 5, offset := 5, embedded := false, tag := "", pkgPath := "", byteOffset := 22 }, { name := "Kind_", type := 135, offset := 6, embedded := false, tag := "", pkgPath := "", byteOffset := 23 }, { name := "Equal", type := 136, offset := 7, embedded := false, tag := "", pkgPath := "", byteOffset := 24 }, { name := "GCData", type := 137, offset := 8, embedded := false, tag := "", pkgPath := "", byteOffset := 32 }, { name := "Str", type := 138, offset := 9, embedded := false, tag := "", pkgPath := "", byteOffset := 40 }, { name := "PtrToThis", type := 139, offset := 10, embedded := false, tag := "", pkgPath := "", byteOffset := 44 }] }
theorem ty140 : TyOk Try.prog 140 ti140 := ⟨by kernel_rfl, by kernel_rfl⟩
def ti141 : TI := { sz := 11, by' := 48, zero := [.int .u64 0, .int .u64 0, .int .u32 0, .int .u8 0, .int .u8 0, .int .u8 0, .int .u8 0, .nilFunc, .pointer none, .int .i32 0, .int .i32 0], ud := .struct #[{ name := "Size_", type := 12, offset := 0, embedded := false, tag := "", pkgPath := "", byteOffset := 0 }, { name := "PtrBytes", type := 12, offset := 1, embedded := false, tag := "", pkgPath := "", byteOffset := 8 }, { name := "Hash", type := 133, offset := 2, embedded := false, tag := "", pkgPath := "", byteOffset := 16 }, { name := "TFlag", type := 134, offset := 3, embedded := false, tag := "", pkgPath := "", byteOffset := 20 }, { name := "Align_", type := 5, offset := 4, embedded := false, tag := "", pkgPath := "", byteOffset := 21 }, { name := "FieldAlign_", type := 5, offset := 5, embedded := false, tag := "", pkgPath := "", byteOffset := 22 }, { name := "Kind_", type := 135, offset := 6, embedded := false, tag := "", pkgPath := "", byteOffset := 23 }, { name := "Equal", type := 136, offset := 7, embedded := false, tag := "", pkgPath := "", byteOffset := 24 }, { name := "GCData", type := 137, offset := 8, embedded := false, tag := "", pkgPath := "", byteOffset := 32 }, { name := "Str", type := 138, offset := 9, embedded := false, tag := "", pkgPath := "", byteOffset := 40 }, { name := "PtrToThis", type := 139, offset := 10, embedded := false, tag := "", pkgPath := "", byteOffset := 44 }] }
theorem ty141 : TyOk Try.prog 141 ti141 := ⟨by kernel_rfl, by kernel_rfl⟩
def tab : List (Nat × TI) := [(1, ti1), (2, ti2), (3, ti3), (4, ti4), (5, ti5), (6, ti6), (7, ti7), (8, ti8), (9, ti9), (10, ti10), (11, ti11), (12, ti12), (13, ti13), (14, ti14), (15, ti15), (16, ti16), (17, ti17), (18, ti18), (19, ti19), (21, ti21), (22, ti22), (23, ti23), (24, ti24), (25, ti25), (26, ti26), (27, ti27), (28, ti28), (29, ti29), (30, ti30), (31, ti31), (33, ti33), (34, ti34), (35, ti35), (36, ti36), (37, ti37), (38, ti38), (40, ti40), (41, ti41), (43, ti43), (44, ti44), (45, ti45), (46, ti46), (47, ti47), (48, ti48), (49, ti49), (51, ti51), (53, ti53), (54, ti54), (56, ti56), (57, ti57), (58, ti58), (59, ti59), (60, ti60), (61, ti61), (62, ti62), (63, ti63), (64, ti64), (65, ti65), (66, ti66), (67, ti67), (68, ti68), (69, ti69), (70, ti70), (71, ti71), (72, ti72), (73, ti73), (74, ti74), (75, ti75), (76, ti76), (77, ti77), (78, ti78), (79, ti79), (80, ti80), (81, ti81), (82, ti82), (83, ti83), (84, ti84), (85, ti85), (86, ti86), (87, ti87), (88, ti88), (89, ti89), (90, ti90), (91, ti91), (92, ti92), (93, ti93), (95, ti95), (96, ti96), (97, ti97), (98, ti98), (99, ti99), (100, ti100), (101, ti101), (102, ti102), (103, ti103), (105, ti105), (106, ti106), (108, ti108), (109, ti109), (110, ti110), (111, ti111), (112, ti112), (113, ti113), (114, ti114), (115, ti115), (116, ti116), (117, ti117), (118, ti118), (119, ti119), (120, ti120), (121, ti121), (122, ti122), (123, ti123), (124, ti124), (125, ti125), (126, ti126), (127, ti127), (128, ti128), (132, ti132), (133, ti133), (134, ti134), (135, ti135), (136, ti136), (137, ti137), (138, ti138), (139, ti139), (140, ti140), (141, ti141)]
theorem tab_ok : ∀ e ∈ tab, TyOk Try.prog e.1 e.2 := by
  unfold tab
  refine List.forall_mem_cons.2 ⟨ty1, ?_⟩
  refine List.forall_mem_cons.2 ⟨ty2, ?_⟩
  refine List.forall_mem_cons.2 ⟨ty3, ?_⟩
  refine List.forall_mem_cons.2 ⟨ty4, ?_⟩
  refine List.forall_mem_cons.2 ⟨ty5, ?_⟩
  refine List.forall_mem_cons.2 ⟨ty6, ?_⟩
  refine List.forall_mem_cons.2 ⟨ty7, ?_⟩
  refine List.forall_mem_cons.2 ⟨ty8, ?_⟩
  refine List.forall_mem_cons.2 ⟨ty9, ?_⟩
  refine List.forall_mem_cons.2 ⟨ty10, ?_⟩
  refine List.forall_mem_cons.2 ⟨ty11, ?_⟩
  refine List.forall_mem_cons.2 ⟨ty12, ?_⟩
  refine List.forall_mem_cons.2 ⟨ty13, ?_⟩
  refine List.forall_mem_cons.2 ⟨ty14, ?_⟩
  refine List.forall_mem_cons.2 ⟨ty15, ?_⟩
  refine List.forall_mem_cons.2 ⟨ty16, ?_⟩
  refine List.forall_mem_cons.2 ⟨ty17, ?_⟩
  refine List.forall_mem_cons.2 ⟨ty18, ?_⟩
  refine List.forall_mem_cons.2 ⟨ty19, ?_⟩
  refine List.forall_mem_cons.2 ⟨ty21, ?_⟩
  refine List.forall_mem_cons.2 ⟨ty22, ?_⟩
  refine List.forall_mem_cons.2 ⟨ty23, ?_⟩
  refine List.forall_mem_cons.2 ⟨ty24, ?_⟩
  refine List.forall_mem_cons.2 ⟨ty25, ?_⟩
  refine List.forall_mem_cons.2 ⟨ty26, ?_⟩
  refine List.forall_mem_cons.2 ⟨ty27, ?_⟩
  refine List.forall_mem_cons.2 ⟨ty28, ?_⟩
  refine List.forall_mem_cons.2 ⟨ty29, ?_⟩
  refine List.forall_mem_cons.2 ⟨ty30, ?_⟩
  refine List.forall_mem_cons.2 ⟨ty31, ?_⟩
  refine List.forall_mem_cons.2 ⟨ty33, ?_⟩
  refine List.forall_mem_cons.2 ⟨ty34, ?_⟩
  refine List.forall_mem_cons.2 ⟨ty35, ?_⟩
  refine List.forall_mem_cons.2 ⟨ty36, ?_⟩
  refine List.forall_mem_cons.2 ⟨ty37, ?_⟩
  refine List.forall_mem_cons.2 ⟨ty38, ?_⟩
  refine List.forall_mem_cons.2 ⟨ty40, ?_⟩
  refine List.forall_mem_cons.2 ⟨ty41, ?_⟩
  refine List.forall_mem_cons.2 ⟨ty43, ?_⟩
  refine List.forall_mem_cons.2 ⟨ty44, ?_⟩
  refine List.forall_mem_cons.2 ⟨ty45, ?_⟩
  refine List.forall_mem_cons.2 ⟨ty46, ?_⟩
  refine List.forall_mem_cons.2 ⟨ty47, ?_⟩
  refine List.forall_mem_cons.2 ⟨ty48, ?_⟩
  refine List.forall_mem_cons.2 ⟨ty49, ?_⟩
  refine List.forall_mem_cons.2 ⟨ty51, ?_⟩
  refine List.forall_mem_cons.2 ⟨ty53, ?_⟩
  refine List.forall_mem_cons.2 ⟨ty54, ?_⟩
  refine List.forall_mem_cons.2 ⟨ty56, ?_⟩
  refine List.forall_mem_cons.2 ⟨ty57, ?_⟩
  refine List.forall_mem_cons.2 ⟨ty58, ?_⟩
  refine List.forall_mem_cons.2 ⟨ty59, ?_⟩
  refine List.forall_mem_cons.2 ⟨ty60, ?_⟩
  refine List.forall_mem_cons.2 ⟨ty61, ?_⟩
  refine List.forall_mem_cons.2 ⟨ty62, ?_⟩
  refine List.forall_mem_cons.2 ⟨ty63, ?_⟩
  refine List.forall_mem_cons.2 ⟨ty64, ?_⟩
  refine List.forall_mem_cons.2 ⟨ty65, ?_⟩
  refine List.forall_mem_cons.2 ⟨ty66, ?_⟩
  refine List.forall_mem_cons.2 ⟨ty67, ?_⟩
  refine List.forall_mem_cons.2 ⟨ty68, ?_⟩
  refine List.forall_mem_cons.2 ⟨ty69, ?_⟩
  refine List.forall_mem_cons.2 ⟨ty70, ?_⟩
  refine List.forall_mem_cons.2 ⟨ty71, ?_⟩
  refine List.forall_mem_cons.2 ⟨ty72, ?_⟩
  refine List.forall_mem_cons.2 ⟨ty73, ?_⟩
  refine List.forall_mem_cons.2 ⟨ty74, ?_⟩
  refine List.forall_mem_cons.2 ⟨ty75, ?_⟩
  refine List.forall_mem_cons.2 ⟨ty76, ?_⟩
  refine List.forall_mem_cons.2 ⟨ty77, ?_⟩
  refine List.forall_mem_cons.2 ⟨ty78, ?_⟩
  refine List.forall_mem_cons.2 ⟨ty79, ?_⟩
  refine List.forall_mem_cons.2 ⟨ty80, ?_⟩
  refine List.forall_mem_cons.2 ⟨ty81, ?_⟩
  refine List.forall_mem_cons.2 ⟨ty82, ?_⟩
  refine List.forall_mem_cons.2 ⟨ty83, ?_⟩
  refine List.forall_mem_cons.2 ⟨ty84, ?_⟩
  refine List.forall_mem_cons.2 ⟨ty85, ?_⟩
  refine List.forall_mem_cons.2 ⟨ty86, ?_⟩
  refine List.forall_mem_cons.2 ⟨ty87, ?_⟩
  refine List.forall_mem_cons.2 ⟨ty88, ?_⟩
  refine List.forall_mem_cons.2 ⟨ty89, ?_⟩
  refine List.forall_mem_cons.2 ⟨ty90, ?_⟩
  refine List.forall_mem_cons.2 ⟨ty91, ?_⟩
  refine List.forall_mem_cons.2 ⟨ty92, ?_⟩
  refine List.forall_mem_cons.2 ⟨ty93, ?_⟩
  refine List.forall_mem_cons.2 ⟨ty95, ?_⟩
  refine List.forall_mem_cons.2 ⟨ty96, ?_⟩
  refine List.forall_mem_cons.2 ⟨ty97, ?_⟩
  refine List.forall_mem_cons.2 ⟨ty98, ?_⟩
  refine List.forall_mem_cons.2 ⟨ty99, ?_⟩
  refine List.forall_mem_cons.2 ⟨ty100, ?_⟩
  refine List.forall_mem_cons.2 ⟨ty101, ?_⟩
  refine List.forall_mem_cons.2 ⟨ty102, ?_⟩
  refine List.forall_mem_cons.2 ⟨ty103, ?_⟩
  refine List.forall_mem_cons.2 ⟨ty105, ?_⟩
  refine List.forall_mem_cons.2 ⟨ty106, ?_⟩
  refine List.forall_mem_cons.2 ⟨ty108, ?_⟩
  refine List.forall_mem_cons.2 ⟨ty109, ?_⟩
  refine List.forall_mem_cons.2 ⟨ty110, ?_⟩
  refine List.forall_mem_cons.2 ⟨ty111, ?_⟩
  refine List.forall_mem_cons.2 ⟨ty112, ?_⟩
  refine List.forall_mem_cons.2 ⟨ty113, ?_⟩
  refine List.forall_mem_cons.2 ⟨ty114, ?_⟩
  refine List.forall_mem_cons.2 ⟨ty115, ?_⟩
  refine List.forall_mem_cons.2 ⟨ty116, ?_⟩
  refine List.forall_mem_cons.2 ⟨ty117, ?_⟩
  refine List.forall_mem_cons.2 ⟨ty118, ?_⟩
  refine List.forall_mem_cons.2 ⟨ty119, ?_⟩
  refine List.forall_mem_cons.2 ⟨ty120, ?_⟩
  refine List.forall_mem_cons.2 ⟨ty121, ?_⟩
  refine List.forall_mem_cons.2 ⟨ty122, ?_⟩
  refine List.forall_mem_cons.2 ⟨ty123, ?_⟩
  refine List.forall_mem_cons.2 ⟨ty124, ?_⟩
  refine List.forall_mem_cons.2 ⟨ty125, ?_⟩
  refine List.forall_mem_cons.2 ⟨ty126, ?_⟩
  refine List.forall_mem_cons.2 ⟨ty127, ?_⟩
  refine List.forall_mem_cons.2 ⟨ty128, ?_⟩
  refine List.forall_mem_cons.2 ⟨ty132, ?_⟩
  refine List.forall_mem_cons.2 ⟨ty133, ?_⟩
  refine List.forall_mem_cons.2 ⟨ty134, ?_⟩
  refine List.forall_mem_cons.2 ⟨ty135, ?_⟩
  refine List.forall_mem_cons.2 ⟨ty136, ?_⟩
  refine List.forall_mem_cons.2 ⟨ty137, ?_⟩
  refine List.forall_mem_cons.2 ⟨ty138, ?_⟩
  refine List.forall_mem_cons.2 ⟨ty139, ?_⟩
  refine List.forall_mem_cons.2 ⟨ty140, ?_⟩
  refine List.forall_mem_cons.2 ⟨ty141, ?_⟩
  simp
def tys : Nat → Option TI := lookT tab
theorem tys_ok : ∀ t i, tys t = some i → TyOk Try.prog t i := lookT_ok tab_ok
end Go.Proofs.Ytlccbfdeonmljaa
