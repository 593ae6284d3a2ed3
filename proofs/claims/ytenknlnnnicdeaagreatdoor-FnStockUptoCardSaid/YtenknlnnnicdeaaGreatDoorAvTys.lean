/- The seat's types, as the av texts know them. Written by a program (wip/tools/tys.py). -/
import Derived.Test.YtenknlnnnicdeaaGreatDoorMA
import Derived.Test.YtenknlnnnicdeaaGreatDoorProg
namespace Go.Proofs.YtenknlnnnicdeaaGreatDoor
open Go Go.Av

def ti1 : TI := { sz := 1, by' := 8, zero := [.nilFunc], ud := .func #[] #[] false }
theorem ty1 : TyOk Tryz.prog 1 ti1 := ⟨by kernel_rfl, by kernel_rfl⟩
def ti2 : TI := { sz := 1, by' := 8, zero := [.int .i64 0], ud := .int .i64 }
theorem ty2 : TyOk Tryz.prog 2 ti2 := ⟨by kernel_rfl, by kernel_rfl⟩
def ti3 : TI := { sz := 1, by' := 8, zero := [.int .i64 0], ud := .int .i64 }
theorem ty3 : TyOk Tryz.prog 3 ti3 := ⟨by kernel_rfl, by kernel_rfl⟩
def ti4 : TI := { sz := 1, by' := 1, zero := [.bool false], ud := .bool }
theorem ty4 : TyOk Tryz.prog 4 ti4 := ⟨by kernel_rfl, by kernel_rfl⟩
def ti5 : TI := { sz := 1, by' := 1, zero := [.int .u8 0], ud := .int .u8 }
theorem ty5 : TyOk Tryz.prog 5 ti5 := ⟨by kernel_rfl, by kernel_rfl⟩
def ti6 : TI := { sz := 1, by' := 1, zero := [.int .u8 0], ud := .int .u8 }
theorem ty6 : TyOk Tryz.prog 6 ti6 := ⟨by kernel_rfl, by kernel_rfl⟩
def ti7 : TI := { sz := 4, by' := 24, zero := [.int .i64 0, .int .i64 0, .bool false, .int .u8 0], ud := .struct #[{ name := "x", type := 2, offset := 0, embedded := false, tag := "", pkgPath := "runtime", byteOffset := 0 }, { name := "y", type := 3, offset := 1, embedded := false, tag := "", pkgPath := "runtime", byteOffset := 8 }, { name := "signed", type := 4, offset := 2, embedded := false, tag := "", pkgPath := "runtime", byteOffset := 16 }, { name := "code", type := 6, offset := 3, embedded := false, tag := "", pkgPath := "runtime", byteOffset := 17 }] }
theorem ty7 : TyOk Tryz.prog 7 ti7 := ⟨by kernel_rfl, by kernel_rfl⟩
def ti8 : TI := { sz := 4, by' := 24, zero := [.int .i64 0, .int .i64 0, .bool false, .int .u8 0], ud := .struct #[{ name := "x", type := 2, offset := 0, embedded := false, tag := "", pkgPath := "runtime", byteOffset := 0 }, { name := "y", type := 3, offset := 1, embedded := false, tag := "", pkgPath := "runtime", byteOffset := 8 }, { name := "signed", type := 4, offset := 2, embedded := false, tag := "", pkgPath := "runtime", byteOffset := 16 }, { name := "code", type := 6, offset := 3, embedded := false, tag := "", pkgPath := "runtime", byteOffset := 17 }] }
theorem ty8 : TyOk Tryz.prog 8 ti8 := ⟨by kernel_rfl, by kernel_rfl⟩
def ti9 : TI := { sz := 1, by' := 16, zero := [.string .empty], ud := .string }
theorem ty9 : TyOk Tryz.prog 9 ti9 := ⟨by kernel_rfl, by kernel_rfl⟩
def ti10 : TI := { sz := 1, by' := 16, zero := [.string .empty], ud := .string }
theorem ty10 : TyOk Tryz.prog 10 ti10 := ⟨by kernel_rfl, by kernel_rfl⟩
def ti11 : TI := { sz := 1, by' := 16, zero := [.string .empty], ud := .string }
theorem ty11 : TyOk Tryz.prog 11 ti11 := ⟨by kernel_rfl, by kernel_rfl⟩
def ti12 : TI := { sz := 1, by' := 8, zero := [.int .u64 0], ud := .int .u64 }
theorem ty12 : TyOk Tryz.prog 12 ti12 := ⟨by kernel_rfl, by kernel_rfl⟩
def ti13 : TI := { sz := 2, by' := 24, zero := [.string .empty, .int .u64 0], ud := .struct #[{ name := "msg", type := 9, offset := 0, embedded := false, tag := "", pkgPath := "runtime", byteOffset := 0 }, { name := "addr", type := 12, offset := 1, embedded := false, tag := "", pkgPath := "runtime", byteOffset := 16 }] }
theorem ty13 : TyOk Tryz.prog 13 ti13 := ⟨by kernel_rfl, by kernel_rfl⟩
def ti14 : TI := { sz := 2, by' := 24, zero := [.string .empty, .int .u64 0], ud := .struct #[{ name := "msg", type := 9, offset := 0, embedded := false, tag := "", pkgPath := "runtime", byteOffset := 0 }, { name := "addr", type := 12, offset := 1, embedded := false, tag := "", pkgPath := "runtime", byteOffset := 16 }] }
theorem ty14 : TyOk Tryz.prog 14 ti14 := ⟨by kernel_rfl, by kernel_rfl⟩
def ti15 : TI := { sz := 1, by' := 8, zero := [.pointer none], ud := .pointer 193 }
theorem ty15 : TyOk Tryz.prog 15 ti15 := ⟨by kernel_rfl, by kernel_rfl⟩
def ti16 : TI := { sz := 1, by' := 8, zero := [.pointer none], ud := .pointer 196 }
theorem ty16 : TyOk Tryz.prog 16 ti16 := ⟨by kernel_rfl, by kernel_rfl⟩
def ti17 : TI := { sz := 1, by' := 8, zero := [.pointer none], ud := .pointer 203 }
theorem ty17 : TyOk Tryz.prog 17 ti17 := ⟨by kernel_rfl, by kernel_rfl⟩
def ti18 : TI := { sz := 1, by' := 8, zero := [.pointer none], ud := .struct #[{ name := "typ", type := 17, offset := 0, embedded := false, tag := "", pkgPath := "internal/runtime/maps", byteOffset := 0 }] }
theorem ty18 : TyOk Tryz.prog 18 ti18 := ⟨by kernel_rfl, by kernel_rfl⟩
def ti19 : TI := { sz := 1, by' := 8, zero := [.pointer none], ud := .struct #[{ name := "typ", type := 17, offset := 0, embedded := false, tag := "", pkgPath := "internal/runtime/maps", byteOffset := 0 }] }
theorem ty19 : TyOk Tryz.prog 19 ti19 := ⟨by kernel_rfl, by kernel_rfl⟩
def ti21 : TI := { sz := 1, by' := 4, zero := [.int .i32 0], ud := .int .i32 }
theorem ty21 : TyOk Tryz.prog 21 ti21 := ⟨by kernel_rfl, by kernel_rfl⟩
def ti22 : TI := { sz := 1, by' := 24, zero := [.slice none 0 0], ud := .slice 5 }
theorem ty22 : TyOk Tryz.prog 22 ti22 := ⟨by kernel_rfl, by kernel_rfl⟩
def ti23 : TI := { sz := 1, by' := 8, zero := [.nilFunc], ud := .func #[22] #[4] false }
theorem ty23 : TyOk Tryz.prog 23 ti23 := ⟨by kernel_rfl, by kernel_rfl⟩
def ti24 : TI := { sz := 1, by' := 24, zero := [.slice none 0 0], ud := .slice 47 }
theorem ty24 : TyOk Tryz.prog 24 ti24 := ⟨by kernel_rfl, by kernel_rfl⟩
def ti25 : TI := { sz := 1, by' := 8, zero := [.nilFunc], ud := .func #[24] #[24] false }
theorem ty25 : TyOk Tryz.prog 25 ti25 := ⟨by kernel_rfl, by kernel_rfl⟩
def ti26 : TI := { sz := 1, by' := 8, zero := [.nilFunc], ud := .func #[22] #[24] false }
theorem ty26 : TyOk Tryz.prog 26 ti26 := ⟨by kernel_rfl, by kernel_rfl⟩
def ti27 : TI := { sz := 1, by' := 8, zero := [.nilFunc], ud := .func #[22, 24] #[24] false }
theorem ty27 : TyOk Tryz.prog 27 ti27 := ⟨by kernel_rfl, by kernel_rfl⟩
def ti29 : TI := { sz := 1, by' := 8, zero := [.nilFunc], ud := .func #[24, 24] #[24, 2] false }
theorem ty29 : TyOk Tryz.prog 29 ti29 := ⟨by kernel_rfl, by kernel_rfl⟩
def ti31 : TI := { sz := 1, by' := 8, zero := [.nilFunc], ud := .func #[24, 24] #[4, 2] false }
theorem ty31 : TyOk Tryz.prog 31 ti31 := ⟨by kernel_rfl, by kernel_rfl⟩
def ti32 : TI := { sz := 1, by' := 24, zero := [.slice none 0 0], ud := .slice 2 }
theorem ty32 : TyOk Tryz.prog 32 ti32 := ⟨by kernel_rfl, by kernel_rfl⟩
def ti34 : TI := { sz := 1, by' := 8, zero := [.nilFunc], ud := .func #[24] #[32, 2] false }
theorem ty34 : TyOk Tryz.prog 34 ti34 := ⟨by kernel_rfl, by kernel_rfl⟩
def ti35 : TI := { sz := 1, by' := 8, zero := [.nilFunc], ud := .func #[24, 32] #[24, 2] false }
theorem ty35 : TyOk Tryz.prog 35 ti35 := ⟨by kernel_rfl, by kernel_rfl⟩
def ti36 : TI := { sz := 1, by' := 8, zero := [.nilFunc], ud := .func #[24] #[4, 2] false }
theorem ty36 : TyOk Tryz.prog 36 ti36 := ⟨by kernel_rfl, by kernel_rfl⟩
def ti38 : TI := { sz := 1, by' := 8, zero := [.nilFunc], ud := .func #[24] #[2, 2] false }
theorem ty38 : TyOk Tryz.prog 38 ti38 := ⟨by kernel_rfl, by kernel_rfl⟩
def ti40 : TI := { sz := 1, by' := 8, zero := [.nilFunc], ud := .func #[24, 24] #[9, 2] false }
theorem ty40 : TyOk Tryz.prog 40 ti40 := ⟨by kernel_rfl, by kernel_rfl⟩
def ti41 : TI := { sz := 1, by' := 8, zero := [.nilFunc], ud := .func #[24, 24] #[4] false }
theorem ty41 : TyOk Tryz.prog 41 ti41 := ⟨by kernel_rfl, by kernel_rfl⟩
def ti42 : TI := { sz := 1, by' := 8, zero := [.nilFunc], ud := .func #[32, 32] #[4] false }
theorem ty42 : TyOk Tryz.prog 42 ti42 := ⟨by kernel_rfl, by kernel_rfl⟩
def ti43 : TI := { sz := 1, by' := 8, zero := [.nilFunc], ud := .func #[24, 47] #[3] false }
theorem ty43 : TyOk Tryz.prog 43 ti43 := ⟨by kernel_rfl, by kernel_rfl⟩
def ti44 : TI := { sz := 1, by' := 2, zero := [.int .i16 0], ud := .int .i16 }
theorem ty44 : TyOk Tryz.prog 44 ti44 := ⟨by kernel_rfl, by kernel_rfl⟩
def ti45 : TI := { sz := 3, by' := 3, zero := [.int .u8 0, .int .u8 0, .int .u8 0], ud := .array 3 5 }
theorem ty45 : TyOk Tryz.prog 45 ti45 := ⟨by kernel_rfl, by kernel_rfl⟩
def ti46 : TI := { sz := 8, by' := 14, zero := [.int .i16 0, .int .u8 0, .int .u8 0, .int .u8 0, .int .i16 0, .int .i16 0, .int .i16 0, .int .i16 0], ud := .struct #[{ name := "Class", type := 44, offset := 0, embedded := false, tag := "", pkgPath := "", byteOffset := 0 }, { name := "Mark", type := 45, offset := 1, embedded := false, tag := "", pkgPath := "", byteOffset := 2 }, { name := "Volume", type := 44, offset := 4, embedded := false, tag := "", pkgPath := "", byteOffset := 6 }, { name := "Wide", type := 44, offset := 5, embedded := false, tag := "", pkgPath := "", byteOffset := 8 }, { name := "High", type := 44, offset := 6, embedded := false, tag := "", pkgPath := "", byteOffset := 10 }, { name := "Weight", type := 44, offset := 7, embedded := false, tag := "", pkgPath := "", byteOffset := 12 }] }
theorem ty46 : TyOk Tryz.prog 46 ti46 := ⟨by kernel_rfl, by kernel_rfl⟩
def ti47 : TI := { sz := 8, by' := 14, zero := [.int .i16 0, .int .u8 0, .int .u8 0, .int .u8 0, .int .i16 0, .int .i16 0, .int .i16 0, .int .i16 0], ud := .struct #[{ name := "Class", type := 44, offset := 0, embedded := false, tag := "", pkgPath := "", byteOffset := 0 }, { name := "Mark", type := 45, offset := 1, embedded := false, tag := "", pkgPath := "", byteOffset := 2 }, { name := "Volume", type := 44, offset := 4, embedded := false, tag := "", pkgPath := "", byteOffset := 6 }, { name := "Wide", type := 44, offset := 5, embedded := false, tag := "", pkgPath := "", byteOffset := 8 }, { name := "High", type := 44, offset := 6, embedded := false, tag := "", pkgPath := "", byteOffset := 10 }, { name := "Weight", type := 44, offset := 7, embedded := false, tag := "", pkgPath := "", byteOffset := 12 }] }
theorem ty47 : TyOk Tryz.prog 47 ti47 := ⟨by kernel_rfl, by kernel_rfl⟩
def ti48 : TI := { sz := 2, by' := 4, zero := [.int .i16 0, .int .i16 0], ud := .struct #[{ name := "From", type := 44, offset := 0, embedded := false, tag := "", pkgPath := "", byteOffset := 0 }, { name := "To", type := 44, offset := 1, embedded := false, tag := "", pkgPath := "", byteOffset := 2 }] }
theorem ty48 : TyOk Tryz.prog 48 ti48 := ⟨by kernel_rfl, by kernel_rfl⟩
def ti49 : TI := { sz := 2, by' := 4, zero := [.int .i16 0, .int .i16 0], ud := .struct #[{ name := "From", type := 44, offset := 0, embedded := false, tag := "", pkgPath := "", byteOffset := 0 }, { name := "To", type := 44, offset := 1, embedded := false, tag := "", pkgPath := "", byteOffset := 2 }] }
theorem ty49 : TyOk Tryz.prog 49 ti49 := ⟨by kernel_rfl, by kernel_rfl⟩
def ti51 : TI := { sz := 1, by' := 8, zero := [.nilFunc], ud := .func #[24, 24] #[49, 2] false }
theorem ty51 : TyOk Tryz.prog 51 ti51 := ⟨by kernel_rfl, by kernel_rfl⟩
def ti52 : TI := { sz := 1, by' := 8, zero := [.nilFunc], ud := .func #[24, 24] #[2, 2] false }
theorem ty52 : TyOk Tryz.prog 52 ti52 := ⟨by kernel_rfl, by kernel_rfl⟩
def ti53 : TI := { sz := 1, by' := 8, zero := [.nilFunc], ud := .func #[24, 24] #[32, 2] false }
theorem ty53 : TyOk Tryz.prog 53 ti53 := ⟨by kernel_rfl, by kernel_rfl⟩
def ti54 : TI := { sz := 1, by' := 8, zero := [.nilFunc], ud := .func #[24, 49] #[24, 2] false }
theorem ty54 : TyOk Tryz.prog 54 ti54 := ⟨by kernel_rfl, by kernel_rfl⟩
def ti55 : TI := { sz := 1, by' := 8, zero := [.nilFunc], ud := .func #[24, 56] #[24, 2] false }
theorem ty55 : TyOk Tryz.prog 55 ti55 := ⟨by kernel_rfl, by kernel_rfl⟩
def ti56 : TI := { sz := 1, by' := 24, zero := [.slice none 0 0], ud := .slice 49 }
theorem ty56 : TyOk Tryz.prog 56 ti56 := ⟨by kernel_rfl, by kernel_rfl⟩
def ti57 : TI := { sz := 1, by' := 8, zero := [.nilFunc], ud := .func #[22, 22] #[4] false }
theorem ty57 : TyOk Tryz.prog 57 ti57 := ⟨by kernel_rfl, by kernel_rfl⟩
def ti58 : TI := { sz := 1, by' := 8, zero := [.nilFunc], ud := .func #[60, 24] #[24] false }
theorem ty58 : TyOk Tryz.prog 58 ti58 := ⟨by kernel_rfl, by kernel_rfl⟩
def ti59 : TI := { sz := 1, by' := 1, zero := [.int .i8 0], ud := .int .i8 }
theorem ty59 : TyOk Tryz.prog 59 ti59 := ⟨by kernel_rfl, by kernel_rfl⟩
def ti60 : TI := { sz := 1, by' := 24, zero := [.slice none 0 0], ud := .slice 59 }
theorem ty60 : TyOk Tryz.prog 60 ti60 := ⟨by kernel_rfl, by kernel_rfl⟩
def ti61 : TI := { sz := 1, by' := 8, zero := [.nilFunc], ud := .func #[62] #[24] false }
theorem ty61 : TyOk Tryz.prog 61 ti61 := ⟨by kernel_rfl, by kernel_rfl⟩
def ti62 : TI := { sz := 1, by' := 8, zero := [.pointer none], ud := .pointer 97 }
theorem ty62 : TyOk Tryz.prog 62 ti62 := ⟨by kernel_rfl, by kernel_rfl⟩
def ti63 : TI := { sz := 1, by' := 8, zero := [.nilFunc], ud := .func #[22] #[62] false }
theorem ty63 : TyOk Tryz.prog 63 ti63 := ⟨by kernel_rfl, by kernel_rfl⟩
def ti64 : TI := { sz := 1, by' := 8, zero := [.nilFunc], ud := .func #[2] #[2] false }
theorem ty64 : TyOk Tryz.prog 64 ti64 := ⟨by kernel_rfl, by kernel_rfl⟩
def ti65 : TI := { sz := 1, by' := 8, zero := [.nilFunc], ud := .func #[24, 49] #[24] false }
theorem ty65 : TyOk Tryz.prog 65 ti65 := ⟨by kernel_rfl, by kernel_rfl⟩
def ti66 : TI := { sz := 1, by' := 8, zero := [.nilFunc], ud := .func #[2] #[4] false }
theorem ty66 : TyOk Tryz.prog 66 ti66 := ⟨by kernel_rfl, by kernel_rfl⟩
def ti67 : TI := { sz := 1, by' := 8, zero := [.nilFunc], ud := .func #[62] #[47] false }
theorem ty67 : TyOk Tryz.prog 67 ti67 := ⟨by kernel_rfl, by kernel_rfl⟩
def ti68 : TI := { sz := 1, by' := 8, zero := [.nilFunc], ud := .func #[24, 24] #[2] false }
theorem ty68 : TyOk Tryz.prog 68 ti68 := ⟨by kernel_rfl, by kernel_rfl⟩
def ti69 : TI := { sz := 1, by' := 8, zero := [.nilFunc], ud := .func #[24, 24] #[24] false }
theorem ty69 : TyOk Tryz.prog 69 ti69 := ⟨by kernel_rfl, by kernel_rfl⟩
def ti70 : TI := { sz := 1, by' := 8, zero := [.nilFunc], ud := .func #[24] #[4] false }
theorem ty70 : TyOk Tryz.prog 70 ti70 := ⟨by kernel_rfl, by kernel_rfl⟩
def ti71 : TI := { sz := 1, by' := 8, zero := [.nilFunc], ud := .func #[24] #[32] false }
theorem ty71 : TyOk Tryz.prog 71 ti71 := ⟨by kernel_rfl, by kernel_rfl⟩
def ti72 : TI := { sz := 1, by' := 8, zero := [.nilFunc], ud := .func #[32] #[4] false }
theorem ty72 : TyOk Tryz.prog 72 ti72 := ⟨by kernel_rfl, by kernel_rfl⟩
def ti73 : TI := { sz := 1, by' := 8, zero := [.nilFunc], ud := .func #[32, 66] #[4] false }
theorem ty73 : TyOk Tryz.prog 73 ti73 := ⟨by kernel_rfl, by kernel_rfl⟩
def ti74 : TI := { sz := 1, by' := 8, zero := [.nilFunc], ud := .func #[2, 2, 2] #[4] false }
theorem ty74 : TyOk Tryz.prog 74 ti74 := ⟨by kernel_rfl, by kernel_rfl⟩
def ti75 : TI := { sz := 1, by' := 8, zero := [.nilFunc], ud := .func #[32, 2] #[4] false }
theorem ty75 : TyOk Tryz.prog 75 ti75 := ⟨by kernel_rfl, by kernel_rfl⟩
def ti76 : TI := { sz := 1, by' := 24, zero := [.slice none 0 0], ud := .slice 3 }
theorem ty76 : TyOk Tryz.prog 76 ti76 := ⟨by kernel_rfl, by kernel_rfl⟩
def ti77 : TI := { sz := 1, by' := 8, zero := [.nilFunc], ud := .func #[24] #[76] false }
theorem ty77 : TyOk Tryz.prog 77 ti77 := ⟨by kernel_rfl, by kernel_rfl⟩
def ti78 : TI := { sz := 1, by' := 8, zero := [.nilFunc], ud := .func #[24, 79] #[9] false }
theorem ty78 : TyOk Tryz.prog 78 ti78 := ⟨by kernel_rfl, by kernel_rfl⟩
def ti79 : TI := { sz := 1, by' := 8, zero := [.nilFunc], ud := .func #[47] #[9] false }
theorem ty79 : TyOk Tryz.prog 79 ti79 := ⟨by kernel_rfl, by kernel_rfl⟩
def ti80 : TI := { sz := 1, by' := 8, zero := [.nilFunc], ud := .func #[32, 81] #[9] false }
theorem ty80 : TyOk Tryz.prog 80 ti80 := ⟨by kernel_rfl, by kernel_rfl⟩
def ti81 : TI := { sz := 1, by' := 8, zero := [.nilFunc], ud := .func #[2] #[9] false }
theorem ty81 : TyOk Tryz.prog 81 ti81 := ⟨by kernel_rfl, by kernel_rfl⟩
def ti82 : TI := { sz := 1, by' := 8, zero := [.nilFunc], ud := .func #[83] #[9] false }
theorem ty82 : TyOk Tryz.prog 82 ti82 := ⟨by kernel_rfl, by kernel_rfl⟩
def ti83 : TI := { sz := 1, by' := 8, zero := [.pointer none], ud := .pointer 47 }
theorem ty83 : TyOk Tryz.prog 83 ti83 := ⟨by kernel_rfl, by kernel_rfl⟩
def ti84 : TI := { sz := 1, by' := 8, zero := [.nilFunc], ud := .func #[24, 24, 85, 88] #[49, 2] false }
theorem ty84 : TyOk Tryz.prog 84 ti84 := ⟨by kernel_rfl, by kernel_rfl⟩
def ti85 : TI := { sz := 1, by' := 8, zero := [.nilFunc], ud := .func #[3] #[3] false }
theorem ty85 : TyOk Tryz.prog 85 ti85 := ⟨by kernel_rfl, by kernel_rfl⟩
def ti87 : TI := { sz := 1, by' := 8, zero := [.nilFunc], ud := .func #[24, 49] #[24, 4] false }
theorem ty87 : TyOk Tryz.prog 87 ti87 := ⟨by kernel_rfl, by kernel_rfl⟩
def ti88 : TI := { sz := 1, by' := 8, zero := [.nilFunc], ud := .func #[49] #[24] false }
theorem ty88 : TyOk Tryz.prog 88 ti88 := ⟨by kernel_rfl, by kernel_rfl⟩
def ti89 : TI := { sz := 1, by' := 8, zero := [.nilFunc], ud := .func #[24, 24, 90] #[32] false }
theorem ty89 : TyOk Tryz.prog 89 ti89 := ⟨by kernel_rfl, by kernel_rfl⟩
def ti90 : TI := { sz := 1, by' := 8, zero := [.nilFunc], ud := .func #[47, 47] #[4] false }
theorem ty90 : TyOk Tryz.prog 90 ti90 := ⟨by kernel_rfl, by kernel_rfl⟩
def ti91 : TI := { sz := 1, by' := 8, zero := [.nilFunc], ud := .func #[56, 93] #[4] false }
theorem ty91 : TyOk Tryz.prog 91 ti91 := ⟨by kernel_rfl, by kernel_rfl⟩
def ti92 : TI := { sz := 1, by' := 8, zero := [.nilFunc], ud := .func #[44, 44, 44] #[4] false }
theorem ty92 : TyOk Tryz.prog 92 ti92 := ⟨by kernel_rfl, by kernel_rfl⟩
def ti93 : TI := { sz := 1, by' := 8, zero := [.nilFunc], ud := .func #[49] #[4] false }
theorem ty93 : TyOk Tryz.prog 93 ti93 := ⟨by kernel_rfl, by kernel_rfl⟩
def ti94 : TI := { sz := 1, by' := 8, zero := [.nilFunc], ud := .func #[60, 83, 83] #[2] false }
theorem ty94 : TyOk Tryz.prog 94 ti94 := ⟨by kernel_rfl, by kernel_rfl⟩
def ti95 : TI := { sz := 1, by' := 8, zero := [.int .u64 0], ud := .int .u64 }
theorem ty95 : TyOk Tryz.prog 95 ti95 := ⟨by kernel_rfl, by kernel_rfl⟩
def ti96 : TI := { sz := 3, by' := 40, zero := [.slice none 0 0, .int .i64 0, .int .u64 0], ud := .struct #[{ name := "code", type := 22, offset := 0, embedded := false, tag := "", pkgPath := "loop.example/g01326/spec", byteOffset := 0 }, { name := "at", type := 3, offset := 1, embedded := false, tag := "", pkgPath := "loop.example/g01326/spec", byteOffset := 24 }, { name := "seed", type := 95, offset := 2, embedded := false, tag := "", pkgPath := "loop.example/g01326/spec", byteOffset := 32 }] }
theorem ty96 : TyOk Tryz.prog 96 ti96 := ⟨by kernel_rfl, by kernel_rfl⟩
def ti97 : TI := { sz := 3, by' := 40, zero := [.slice none 0 0, .int .i64 0, .int .u64 0], ud := .struct #[{ name := "code", type := 22, offset := 0, embedded := false, tag := "", pkgPath := "loop.example/g01326/spec", byteOffset := 0 }, { name := "at", type := 3, offset := 1, embedded := false, tag := "", pkgPath := "loop.example/g01326/spec", byteOffset := 24 }, { name := "seed", type := 95, offset := 2, embedded := false, tag := "", pkgPath := "loop.example/g01326/spec", byteOffset := 32 }] }
theorem ty97 : TyOk Tryz.prog 97 ti97 := ⟨by kernel_rfl, by kernel_rfl⟩
def ti98 : TI := { sz := 1, by' := 8, zero := [.nilFunc], ud := .func #[] #[2] false }
theorem ty98 : TyOk Tryz.prog 98 ti98 := ⟨by kernel_rfl, by kernel_rfl⟩
def ti99 : TI := { sz := 1, by' := 8, zero := [.nilFunc], ud := .func #[24, 101] #[24] false }
theorem ty99 : TyOk Tryz.prog 99 ti99 := ⟨by kernel_rfl, by kernel_rfl⟩
def ti100 : TI := { sz := 3, by' := 6, zero := [.int .i16 0, .int .i16 0, .int .i16 0], ud := .struct #[{ name := "From", type := 44, offset := 0, embedded := false, tag := "", pkgPath := "", byteOffset := 0 }, { name := "Count", type := 44, offset := 1, embedded := false, tag := "", pkgPath := "", byteOffset := 2 }, { name := "To", type := 44, offset := 2, embedded := false, tag := "", pkgPath := "", byteOffset := 4 }] }
theorem ty100 : TyOk Tryz.prog 100 ti100 := ⟨by kernel_rfl, by kernel_rfl⟩
def ti101 : TI := { sz := 3, by' := 6, zero := [.int .i16 0, .int .i16 0, .int .i16 0], ud := .struct #[{ name := "From", type := 44, offset := 0, embedded := false, tag := "", pkgPath := "", byteOffset := 0 }, { name := "Count", type := 44, offset := 1, embedded := false, tag := "", pkgPath := "", byteOffset := 2 }, { name := "To", type := 44, offset := 2, embedded := false, tag := "", pkgPath := "", byteOffset := 4 }] }
theorem ty101 : TyOk Tryz.prog 101 ti101 := ⟨by kernel_rfl, by kernel_rfl⟩
def ti102 : TI := { sz := 1, by' := 8, zero := [.map none], ud := .map 47 3 }
theorem ty102 : TyOk Tryz.prog 102 ti102 := ⟨by kernel_rfl, by kernel_rfl⟩
def ti103 : TI := { sz := 1, by' := 8, zero := [.nilFunc], ud := .func #[24] #[2] false }
theorem ty103 : TyOk Tryz.prog 103 ti103 := ⟨by kernel_rfl, by kernel_rfl⟩
def ti104 : TI := { sz := 1, by' := 8, zero := [.nilFunc], ud := .func #[24, 105] #[4] false }
theorem ty104 : TyOk Tryz.prog 104 ti104 := ⟨by kernel_rfl, by kernel_rfl⟩
def ti105 : TI := { sz := 1, by' := 8, zero := [.nilFunc], ud := .func #[47] #[4] false }
theorem ty105 : TyOk Tryz.prog 105 ti105 := ⟨by kernel_rfl, by kernel_rfl⟩
def ti106 : TI := { sz := 1, by' := 8, zero := [.nilFunc], ud := .func #[76, 111] #[32] false }
theorem ty106 : TyOk Tryz.prog 106 ti106 := ⟨by kernel_rfl, by kernel_rfl⟩
def ti107 : TI := { sz := 1, by' := 8, zero := [.nilFunc], ud := .func #[76, 110] #[76] false }
theorem ty107 : TyOk Tryz.prog 107 ti107 := ⟨by kernel_rfl, by kernel_rfl⟩
def ti108 : TI := { sz := 1, by' := 8, zero := [.nilFunc], ud := .func #[3] #[76] false }
theorem ty108 : TyOk Tryz.prog 108 ti108 := ⟨by kernel_rfl, by kernel_rfl⟩
def ti109 : TI := { sz := 1, by' := 8, zero := [.nilFunc], ud := .func #[76, 3] #[4] false }
theorem ty109 : TyOk Tryz.prog 109 ti109 := ⟨by kernel_rfl, by kernel_rfl⟩
def ti110 : TI := { sz := 1, by' := 8, zero := [.nilFunc], ud := .func #[3] #[4] false }
theorem ty110 : TyOk Tryz.prog 110 ti110 := ⟨by kernel_rfl, by kernel_rfl⟩
def ti111 : TI := { sz := 1, by' := 8, zero := [.nilFunc], ud := .func #[3] #[2] false }
theorem ty111 : TyOk Tryz.prog 111 ti111 := ⟨by kernel_rfl, by kernel_rfl⟩
def ti112 : TI := { sz := 1, by' := 8, zero := [.nilFunc], ud := .func #[83] #[4] false }
theorem ty112 : TyOk Tryz.prog 112 ti112 := ⟨by kernel_rfl, by kernel_rfl⟩
def ti113 : TI := { sz := 1, by' := 8, zero := [.nilFunc], ud := .func #[32, 2] #[3] false }
theorem ty113 : TyOk Tryz.prog 113 ti113 := ⟨by kernel_rfl, by kernel_rfl⟩
def ti114 : TI := { sz := 1, by' := 8, zero := [.nilFunc], ud := .func #[24, 115] #[4] false }
theorem ty114 : TyOk Tryz.prog 114 ti114 := ⟨by kernel_rfl, by kernel_rfl⟩
def ti115 : TI := { sz := 1, by' := 8, zero := [.nilFunc], ud := .func #[47, 47] #[3] false }
theorem ty115 : TyOk Tryz.prog 115 ti115 := ⟨by kernel_rfl, by kernel_rfl⟩
def ti116 : TI := { sz := 1, by' := 8, zero := [.nilFunc], ud := .func #[76] #[3] false }
theorem ty116 : TyOk Tryz.prog 116 ti116 := ⟨by kernel_rfl, by kernel_rfl⟩
def ti117 : TI := { sz := 1, by' := 8, zero := [.pointer none], ud := .pointer 119 }
theorem ty117 : TyOk Tryz.prog 117 ti117 := ⟨by kernel_rfl, by kernel_rfl⟩
def ti118 : TI := { sz := 2, by' := 32, zero := [.pointer none, .slice none 0 0], ud := .struct #[{ name := "addr", type := 117, offset := 0, embedded := false, tag := "", pkgPath := "strings", byteOffset := 0 }, { name := "buf", type := 22, offset := 1, embedded := false, tag := "", pkgPath := "strings", byteOffset := 8 }] }
theorem ty118 : TyOk Tryz.prog 118 ti118 := ⟨by kernel_rfl, by kernel_rfl⟩
def ti119 : TI := { sz := 2, by' := 32, zero := [.pointer none, .slice none 0 0], ud := .struct #[{ name := "addr", type := 117, offset := 0, embedded := false, tag := "", pkgPath := "strings", byteOffset := 0 }, { name := "buf", type := 22, offset := 1, embedded := false, tag := "", pkgPath := "strings", byteOffset := 8 }] }
theorem ty119 : TyOk Tryz.prog 119 ti119 := ⟨by kernel_rfl, by kernel_rfl⟩
def ti123 : TI := { sz := 1, by' := 8, zero := [.nilFunc], ud := .func #[9] #[3, 121] false }
theorem ty123 : TyOk Tryz.prog 123 ti123 := ⟨by kernel_rfl, by kernel_rfl⟩
def ti124 : TI := { sz := 1, by' := 8, zero := [.nilFunc], ud := .func #[] #[9] false }
theorem ty124 : TyOk Tryz.prog 124 ti124 := ⟨by kernel_rfl, by kernel_rfl⟩
def ti125 : TI := { sz := 1, by' := 8, zero := [.nilFunc], ud := .func #[9] #[9] false }
theorem ty125 : TyOk Tryz.prog 125 ti125 := ⟨by kernel_rfl, by kernel_rfl⟩
def ti126 : TI := { sz := 1, by' := 8, zero := [.nilFunc], ud := .func #[44, 3] #[9] false }
theorem ty126 : TyOk Tryz.prog 126 ti126 := ⟨by kernel_rfl, by kernel_rfl⟩
def ti127 : TI := { sz := 1, by' := 8, zero := [.nilFunc], ud := .func #[2, 3] #[9] false }
theorem ty127 : TyOk Tryz.prog 127 ti127 := ⟨by kernel_rfl, by kernel_rfl⟩
def ti128 : TI := { sz := 1, by' := 8, zero := [.nilFunc], ud := .func #[9] #[5] false }
theorem ty128 : TyOk Tryz.prog 128 ti128 := ⟨by kernel_rfl, by kernel_rfl⟩
def ti129 : TI := { sz := 1, by' := 8, zero := [.nilFunc], ud := .func #[24, 101] #[24, 4] false }
theorem ty129 : TyOk Tryz.prog 129 ti129 := ⟨by kernel_rfl, by kernel_rfl⟩
def ti130 : TI := { sz := 1, by' := 24, zero := [.slice none 0 0], ud := .slice 4 }
theorem ty130 : TyOk Tryz.prog 130 ti130 := ⟨by kernel_rfl, by kernel_rfl⟩
def ti131 : TI := { sz := 1, by' := 8, zero := [.nilFunc], ud := .func #[76, 110] #[3] false }
theorem ty131 : TyOk Tryz.prog 131 ti131 := ⟨by kernel_rfl, by kernel_rfl⟩
def ti132 : TI := { sz := 1, by' := 8, zero := [.nilFunc], ud := .func #[59] #[59] false }
theorem ty132 : TyOk Tryz.prog 132 ti132 := ⟨by kernel_rfl, by kernel_rfl⟩
def ti133 : TI := { sz := 3, by' := 24, zero := [.int .i64 0, .int .i64 0, .int .i64 0], ud := .array 3 2 }
theorem ty133 : TyOk Tryz.prog 133 ti133 := ⟨by kernel_rfl, by kernel_rfl⟩
def ti134 : TI := { sz := 1, by' := 8, zero := [.nilFunc], ud := .func #[83, 59] #[133] false }
theorem ty134 : TyOk Tryz.prog 134 ti134 := ⟨by kernel_rfl, by kernel_rfl⟩
def ti135 : TI := { sz := 1, by' := 8, zero := [.int .u64 0], ud := .int .u64 }
theorem ty135 : TyOk Tryz.prog 135 ti135 := ⟨by kernel_rfl, by kernel_rfl⟩
def ti136 : TI := { sz := 1, by' := 8, zero := [.nilFunc], ud := .func #[83, 83] #[2] false }
theorem ty136 : TyOk Tryz.prog 136 ti136 := ⟨by kernel_rfl, by kernel_rfl⟩
def ti137 : TI := { sz := 1, by' := 8, zero := [.nilFunc], ud := .func #[22, 138] #[4] false }
theorem ty137 : TyOk Tryz.prog 137 ti137 := ⟨by kernel_rfl, by kernel_rfl⟩
def ti138 : TI := { sz := 1, by' := 8, zero := [.nilFunc], ud := .func #[5] #[4] false }
theorem ty138 : TyOk Tryz.prog 138 ti138 := ⟨by kernel_rfl, by kernel_rfl⟩
def ti139 : TI := { sz := 1, by' := 8, zero := [.nilFunc], ud := .func #[76, 3] #[3] false }
theorem ty139 : TyOk Tryz.prog 139 ti139 := ⟨by kernel_rfl, by kernel_rfl⟩
def ti140 : TI := { sz := 1, by' := 8, zero := [.nilFunc], ud := .func #[45] #[4] false }
theorem ty140 : TyOk Tryz.prog 140 ti140 := ⟨by kernel_rfl, by kernel_rfl⟩
def ti141 : TI := { sz := 1, by' := 8, zero := [.nilFunc], ud := .func #[2, 2] #[2] false }
theorem ty141 : TyOk Tryz.prog 141 ti141 := ⟨by kernel_rfl, by kernel_rfl⟩
def ti142 : TI := { sz := 1, by' := 8, zero := [.nilFunc], ud := .func #[32, 66] #[3] false }
theorem ty142 : TyOk Tryz.prog 142 ti142 := ⟨by kernel_rfl, by kernel_rfl⟩
def ti143 : TI := { sz := 1, by' := 8, zero := [.nilFunc], ud := .func #[60, 47, 47] #[3] false }
theorem ty143 : TyOk Tryz.prog 143 ti143 := ⟨by kernel_rfl, by kernel_rfl⟩
def ti144 : TI := { sz := 1, by' := 8, zero := [.nilFunc], ud := .func #[] #[60] false }
theorem ty144 : TyOk Tryz.prog 144 ti144 := ⟨by kernel_rfl, by kernel_rfl⟩
def ti145 : TI := { sz := 1, by' := 8, zero := [.pointer none], ud := .pointer 5 }
theorem ty145 : TyOk Tryz.prog 145 ti145 := ⟨by kernel_rfl, by kernel_rfl⟩
def ti146 : TI := { sz := 1, by' := 8, zero := [.nilFunc], ud := .func #[] #[76] false }
theorem ty146 : TyOk Tryz.prog 146 ti146 := ⟨by kernel_rfl, by kernel_rfl⟩
def ti147 : TI := { sz := 1, by' := 8, zero := [.nilFunc], ud := .func #[5] #[3] false }
theorem ty147 : TyOk Tryz.prog 147 ti147 := ⟨by kernel_rfl, by kernel_rfl⟩
def ti148 : TI := { sz := 1, by' := 8, zero := [.nilFunc], ud := .func #[3] #[9] false }
theorem ty148 : TyOk Tryz.prog 148 ti148 := ⟨by kernel_rfl, by kernel_rfl⟩
def ti149 : TI := { sz := 1, by' := 8, zero := [.nilFunc], ud := .func #[44] #[9] false }
theorem ty149 : TyOk Tryz.prog 149 ti149 := ⟨by kernel_rfl, by kernel_rfl⟩
def ti150 : TI := { sz := 1, by' := 8, zero := [.nilFunc], ud := .func #[9, 3] #[9] false }
theorem ty150 : TyOk Tryz.prog 150 ti150 := ⟨by kernel_rfl, by kernel_rfl⟩
def ti151 : TI := { sz := 4, by' := 32, zero := [.int .i64 0, .int .i64 0, .int .i64 0, .int .i64 0], ud := .array 4 2 }
theorem ty151 : TyOk Tryz.prog 151 ti151 := ⟨by kernel_rfl, by kernel_rfl⟩
def ti152 : TI := { sz := 1, by' := 8, zero := [.nilFunc], ud := .func #[5] #[2] false }
theorem ty152 : TyOk Tryz.prog 152 ti152 := ⟨by kernel_rfl, by kernel_rfl⟩
def ti153 : TI := { sz := 1, by' := 8, zero := [.nilFunc], ud := .func #[3, 3, 3] #[4] false }
theorem ty153 : TyOk Tryz.prog 153 ti153 := ⟨by kernel_rfl, by kernel_rfl⟩
def ti154 : TI := { sz := 1, by' := 8, zero := [.nilFunc], ud := .func #[24, 3, 24] #[24] true }
theorem ty154 : TyOk Tryz.prog 154 ti154 := ⟨by kernel_rfl, by kernel_rfl⟩
def ti155 : TI := { sz := 1, by' := 8, zero := [.nilFunc], ud := .func #[24, 3, 3] #[24] false }
theorem ty155 : TyOk Tryz.prog 155 ti155 := ⟨by kernel_rfl, by kernel_rfl⟩
def ti156 : TI := { sz := 1, by' := 8, zero := [.nilFunc], ud := .func #[56, 93] #[3] false }
theorem ty156 : TyOk Tryz.prog 156 ti156 := ⟨by kernel_rfl, by kernel_rfl⟩
def ti157 : TI := { sz := 1, by' := 8, zero := [.nilFunc], ud := .func #[24, 105] #[3] false }
theorem ty157 : TyOk Tryz.prog 157 ti157 := ⟨by kernel_rfl, by kernel_rfl⟩
def ti158 : TI := { sz := 1, by' := 8, zero := [.nilFunc], ud := .func #[59, 47, 47] #[3] false }
theorem ty158 : TyOk Tryz.prog 158 ti158 := ⟨by kernel_rfl, by kernel_rfl⟩
def ti160 : TI := { sz := 1, by' := 8, zero := [.nilFunc], ud := .func #[159] #[159] false }
theorem ty160 : TyOk Tryz.prog 160 ti160 := ⟨by kernel_rfl, by kernel_rfl⟩
def ti161 : TI := { sz := 1, by' := 8, zero := [.nilFunc], ud := .func #[9, 5] #[3] false }
theorem ty161 : TyOk Tryz.prog 161 ti161 := ⟨by kernel_rfl, by kernel_rfl⟩
def ti163 : TI := { sz := 1, by' := 8, zero := [.nilFunc], ud := .func #[135, 135] #[135, 135] false }
theorem ty163 : TyOk Tryz.prog 163 ti163 := ⟨by kernel_rfl, by kernel_rfl⟩
def ti164 : TI := { sz := 1, by' := 8, zero := [.nilFunc], ud := .func #[9, 9] #[4] false }
theorem ty164 : TyOk Tryz.prog 164 ti164 := ⟨by kernel_rfl, by kernel_rfl⟩
def ti165 : TI := { sz := 1, by' := 8, zero := [.nilFunc], ud := .func #[3] #[] false }
theorem ty165 : TyOk Tryz.prog 165 ti165 := ⟨by kernel_rfl, by kernel_rfl⟩
def ti166 : TI := { sz := 1, by' := 8, zero := [.nilFunc], ud := .func #[] #[3] false }
theorem ty166 : TyOk Tryz.prog 166 ti166 := ⟨by kernel_rfl, by kernel_rfl⟩
def ti167 : TI := { sz := 24, by' := 24, zero := [.int .u8 0, .int .u8 0, .int .u8 0, .int .u8 0, .int .u8 0, .int .u8 0, .int .u8 0, .int .u8 0, .int .u8 0, .int .u8 0, .int .u8 0, .int .u8 0, .int .u8 0, .int .u8 0, .int .u8 0, .int .u8 0, .int .u8 0, .int .u8 0, .int .u8 0, .int .u8 0, .int .u8 0, .int .u8 0, .int .u8 0, .int .u8 0], ud := .array 24 5 }
theorem ty167 : TyOk Tryz.prog 167 ti167 := ⟨by kernel_rfl, by kernel_rfl⟩
def ti168 : TI := { sz := 1, by' := 8, zero := [.nilFunc], ud := .func #[95] #[3] false }
theorem ty168 : TyOk Tryz.prog 168 ti168 := ⟨by kernel_rfl, by kernel_rfl⟩
def ti169 : TI := { sz := 1, by' := 8, zero := [.nilFunc], ud := .func #[22, 95] #[] false }
theorem ty169 : TyOk Tryz.prog 169 ti169 := ⟨by kernel_rfl, by kernel_rfl⟩
def ti171 : TI := { sz := 1, by' := 8, zero := [.nilFunc], ud := .func #[22, 95, 3, 4, 4] #[22, 9] false }
theorem ty171 : TyOk Tryz.prog 171 ti171 := ⟨by kernel_rfl, by kernel_rfl⟩
def ti172 : TI := { sz := 1, by' := 8, zero := [.nilFunc], ud := .func #[24, 3] #[] false }
theorem ty172 : TyOk Tryz.prog 172 ti172 := ⟨by kernel_rfl, by kernel_rfl⟩
def ti173 : TI := { sz := 1, by' := 8, zero := [.nilFunc], ud := .func #[22, 138] #[3] false }
theorem ty173 : TyOk Tryz.prog 173 ti173 := ⟨by kernel_rfl, by kernel_rfl⟩
def ti174 : TI := { sz := 1, by' := 8, zero := [.nilFunc], ud := .func #[44, 44] #[3] false }
theorem ty174 : TyOk Tryz.prog 174 ti174 := ⟨by kernel_rfl, by kernel_rfl⟩
def ti175 : TI := { sz := 1, by' := 8, zero := [.nilFunc], ud := .func #[22, 22] #[3] false }
theorem ty175 : TyOk Tryz.prog 175 ti175 := ⟨by kernel_rfl, by kernel_rfl⟩
def ti176 : TI := { sz := 1, by' := 4, zero := [.int .u32 0], ud := .int .u32 }
theorem ty176 : TyOk Tryz.prog 176 ti176 := ⟨by kernel_rfl, by kernel_rfl⟩
def ti178 : TI := { sz := 1, by' := 8, zero := [.nilFunc], ud := .func #[176, 176] #[176, 176] false }
theorem ty178 : TyOk Tryz.prog 178 ti178 := ⟨by kernel_rfl, by kernel_rfl⟩
def ti180 : TI := { sz := 1, by' := 8, zero := [.nilFunc], ud := .func #[95, 95] #[95, 95] false }
theorem ty180 : TyOk Tryz.prog 180 ti180 := ⟨by kernel_rfl, by kernel_rfl⟩
def ti181 : TI := { sz := 1, by' := 8, zero := [.nilFunc], ud := .func #[4] #[3] false }
theorem ty181 : TyOk Tryz.prog 181 ti181 := ⟨by kernel_rfl, by kernel_rfl⟩
def ti182 : TI := { sz := 20, by' := 160, zero := [.int .u64 0, .int .u64 0, .int .u64 0, .int .u64 0, .int .u64 0, .int .u64 0, .int .u64 0, .int .u64 0, .int .u64 0, .int .u64 0, .int .u64 0, .int .u64 0, .int .u64 0, .int .u64 0, .int .u64 0, .int .u64 0, .int .u64 0, .int .u64 0, .int .u64 0, .int .u64 0], ud := .array 20 95 }
theorem ty182 : TyOk Tryz.prog 182 ti182 := ⟨by kernel_rfl, by kernel_rfl⟩
def ti183 : TI := { sz := 65, by' := 65, zero := [.int .u8 0, .int .u8 0, .int .u8 0, .int .u8 0, .int .u8 0, .int .u8 0, .int .u8 0, .int .u8 0, .int .u8 0, .int .u8 0, .int .u8 0, .int .u8 0, .int .u8 0, .int .u8 0, .int .u8 0, .int .u8 0, .int .u8 0, .int .u8 0, .int .u8 0, .int .u8 0, .int .u8 0, .int .u8 0, .int .u8 0, .int .u8 0, .int .u8 0, .int .u8 0, .int .u8 0, .int .u8 0, .int .u8 0, .int .u8 0, .int .u8 0, .int .u8 0, .int .u8 0, .int .u8 0, .int .u8 0, .int .u8 0, .int .u8 0, .int .u8 0, .int .u8 0, .int .u8 0, .int .u8 0, .int .u8 0, .int .u8 0, .int .u8 0, .int .u8 0, .int .u8 0, .int .u8 0, .int .u8 0, .int .u8 0, .int .u8 0, .int .u8 0, .int .u8 0, .int .u8 0, .int .u8 0, .int .u8 0, .int .u8 0, .int .u8 0, .int .u8 0, .int .u8 0, .int .u8 0, .int .u8 0, .int .u8 0, .int .u8 0, .int .u8 0, .int .u8 0], ud := .array 65 5 }
theorem ty183 : TyOk Tryz.prog 183 ti183 := ⟨by kernel_rfl, by kernel_rfl⟩
def ti184 : TI := { sz := 1, by' := 8, zero := [.nilFunc], ud := .func #[135] #[3] false }
theorem ty184 : TyOk Tryz.prog 184 ti184 := ⟨by kernel_rfl, by kernel_rfl⟩
def ti185 : TI := { sz := 1, by' := 8, zero := [.nilFunc], ud := .func #[44] #[4] false }
theorem ty185 : TyOk Tryz.prog 185 ti185 := ⟨by kernel_rfl, by kernel_rfl⟩
def ti186 : TI := { sz := 1, by' := 8, zero := [.nilFunc], ud := .func #[5, 5] #[3] false }
theorem ty186 : TyOk Tryz.prog 186 ti186 := ⟨by kernel_rfl, by kernel_rfl⟩
def ti187 : TI := { sz := 1, by' := 8, zero := [.nilFunc], ud := .func #[3] #[22] false }
theorem ty187 : TyOk Tryz.prog 187 ti187 := ⟨by kernel_rfl, by kernel_rfl⟩
def ti188 : TI := { sz := 1, by' := 8, zero := [.nilFunc], ud := .func #[176] #[3] false }
theorem ty188 : TyOk Tryz.prog 188 ti188 := ⟨by kernel_rfl, by kernel_rfl⟩
def ti189 : TI := { sz := 1, by' := 8, zero := [.nilFunc], ud := .func #[24] #[] false }
theorem ty189 : TyOk Tryz.prog 189 ti189 := ⟨by kernel_rfl, by kernel_rfl⟩
def ti190 : TI := { sz := 32, by' := 32, zero := [.int .u8 0, .int .u8 0, .int .u8 0, .int .u8 0, .int .u8 0, .int .u8 0, .int .u8 0, .int .u8 0, .int .u8 0, .int .u8 0, .int .u8 0, .int .u8 0, .int .u8 0, .int .u8 0, .int .u8 0, .int .u8 0, .int .u8 0, .int .u8 0, .int .u8 0, .int .u8 0, .int .u8 0, .int .u8 0, .int .u8 0, .int .u8 0, .int .u8 0, .int .u8 0, .int .u8 0, .int .u8 0, .int .u8 0, .int .u8 0, .int .u8 0, .int .u8 0], ud := .array 32 5 }
theorem ty190 : TyOk Tryz.prog 190 ti190 := ⟨by kernel_rfl, by kernel_rfl⟩
def ti191 : TI := { sz := 64, by' := 64, zero := [.int .u8 0, .int .u8 0, .int .u8 0, .int .u8 0, .int .u8 0, .int .u8 0, .int .u8 0, .int .u8 0, .int .u8 0, .int .u8 0, .int .u8 0, .int .u8 0, .int .u8 0, .int .u8 0, .int .u8 0, .int .u8 0, .int .u8 0, .int .u8 0, .int .u8 0, .int .u8 0, .int .u8 0, .int .u8 0, .int .u8 0, .int .u8 0, .int .u8 0, .int .u8 0, .int .u8 0, .int .u8 0, .int .u8 0, .int .u8 0, .int .u8 0, .int .u8 0, .int .u8 0, .int .u8 0, .int .u8 0, .int .u8 0, .int .u8 0, .int .u8 0, .int .u8 0, .int .u8 0, .int .u8 0, .int .u8 0, .int .u8 0, .int .u8 0, .int .u8 0, .int .u8 0, .int .u8 0, .int .u8 0, .int .u8 0, .int .u8 0, .int .u8 0, .int .u8 0, .int .u8 0, .int .u8 0, .int .u8 0, .int .u8 0, .int .u8 0, .int .u8 0, .int .u8 0, .int .u8 0, .int .u8 0, .int .u8 0, .int .u8 0, .int .u8 0], ud := .array 64 5 }
theorem ty191 : TyOk Tryz.prog 191 ti191 := ⟨by kernel_rfl, by kernel_rfl⟩
def ti192 : TI := { sz := 4, by' := 40, zero := [.pointer none, .pointer none, .pointer none, .string .empty], ud := .struct #[{ name := "_interface", type := 17, offset := 0, embedded := false, tag := "", pkgPath := "runtime", byteOffset := 0 }, { name := "concrete", type := 17, offset := 1, embedded := false, tag := "", pkgPath := "runtime", byteOffset := 8 }, { name := "asserted", type := 17, offset := 2, embedded := false, tag := "", pkgPath := "runtime", byteOffset := 16 }, { name := "missingMethod", type := 9, offset := 3, embedded := false, tag := "", pkgPath := "runtime", byteOffset := 24 }] }
theorem ty192 : TyOk Tryz.prog 192 ti192 := ⟨by kernel_rfl, by kernel_rfl⟩
def ti193 : TI := { sz := 4, by' := 40, zero := [.pointer none, .pointer none, .pointer none, .string .empty], ud := .struct #[{ name := "_interface", type := 17, offset := 0, embedded := false, tag := "", pkgPath := "runtime", byteOffset := 0 }, { name := "concrete", type := 17, offset := 1, embedded := false, tag := "", pkgPath := "runtime", byteOffset := 8 }, { name := "asserted", type := 17, offset := 2, embedded := false, tag := "", pkgPath := "runtime", byteOffset := 16 }, { name := "missingMethod", type := 9, offset := 3, embedded := false, tag := "", pkgPath := "runtime", byteOffset := 24 }] }
theorem ty193 : TyOk Tryz.prog 193 ti193 := ⟨by kernel_rfl, by kernel_rfl⟩
def ti197 : TI := { sz := 1, by' := 1, zero := [.int .u8 0], ud := .int .u8 }
theorem ty197 : TyOk Tryz.prog 197 ti197 := ⟨by kernel_rfl, by kernel_rfl⟩
def ti198 : TI := { sz := 1, by' := 1, zero := [.int .u8 0], ud := .int .u8 }
theorem ty198 : TyOk Tryz.prog 198 ti198 := ⟨by kernel_rfl, by kernel_rfl⟩
def ti199 : TI := { sz := 1, by' := 8, zero := [.nilFunc], ud := .func #[159, 159] #[4] false }
theorem ty199 : TyOk Tryz.prog 199 ti199 := ⟨by kernel_rfl, by kernel_rfl⟩
def ti200 : TI := { sz := 1, by' := 4, zero := [.int .i32 0], ud := .int .i32 }
theorem ty200 : TyOk Tryz.prog 200 ti200 := ⟨by kernel_rfl, by kernel_rfl⟩
def ti201 : TI := { sz := 1, by' := 4, zero := [.int .i32 0], ud := .int .i32 }
theorem ty201 : TyOk Tryz.prog 201 ti201 := ⟨by kernel_rfl, by kernel_rfl⟩
def ti202 : TI := { sz := 11, by' := 48, zero := [.int .u64 0, .int .u64 0, .int .u32 0, .int .u8 0, .int .u8 0, .int .u8 0, .int .u8 0, .nilFunc, .pointer none, .int .i32 0, .int .i32 0], ud := .struct #[{ name := "Size_", type := 12, offset := 0, embedded := false, tag := "", pkgPath := "", byteOffset := 0 }, { name := "PtrBytes", type := 12, offset := 1, embedded := false, tag := "", pkgPath := "", byteOffset := 8 }, { name := "Hash", type := 176, offset := 2, embedded := false, tag := "", pkgPath := "", byteOffset := 16 }, { name := "TFlag", type := 197, offset := 3, embedded := false, tag := "", pkgPath := "", byteOffset := 20 }, { name := "Align_", type := 5, offset := 4, embedded := false, tag := "", pkgPath := "", byteOffset := 21 }, { name := "FieldAlign_", type := 5, offset := 5, embedded := false, tag := "", pkgPath := "", byteOffset := 22 }, { name := "Kind_", type := 198, offset := 6, embedded := false, tag := "", pkgPath := "", byteOffset := 23 }, { name := "Equal", type := 199, offset := 7, embedded := false, tag := "", pkgPath := "", byteOffset := 24 }, { name := "GCData", type := 145, offset := 8, embedded := false, tag := "", pkgPath := "", byteOffset := 32 }, { name := "Str", type := 200, offset := 9, embedded := false, tag := "", pkgPath := "", byteOffset := 40 }, { name := "PtrToThis", type := 201, offset := 10, embedded := false, tag := "", pkgPath := "", byteOffset := 44 }] }
theorem ty202 : TyOk Tryz.prog 202 ti202 := ⟨by kernel_rfl, by kernel_rfl⟩
def ti203 : TI := { sz := 11, by' := 48, zero := [.int .u64 0, .int .u64 0, .int .u32 0, .int .u8 0, .int .u8 0, .int .u8 0, .int .u8 0, .nilFunc, .pointer none, .int .i32 0, .int .i32 0], ud := .struct #[{ name := "Size_", type := 12, offset := 0, embedded := false, tag := "", pkgPath := "", byteOffset := 0 }, { name := "PtrBytes", type := 12, offset := 1, embedded := false, tag := "", pkgPath := "", byteOffset := 8 }, { name := "Hash", type := 176, offset := 2, embedded := false, tag := "", pkgPath := "", byteOffset := 16 }, { name := "TFlag", type := 197, offset := 3, embedded := false, tag := "", pkgPath := "", byteOffset := 20 }, { name := "Align_", type := 5, offset := 4, embedded := false, tag := "", pkgPath := "", byteOffset := 21 }, { name := "FieldAlign_", type := 5, offset := 5, embedded := false, tag := "", pkgPath := "", byteOffset := 22 }, { name := "Kind_", type := 198, offset := 6, embedded := false, tag := "", pkgPath := "", byteOffset := 23 }, { name := "Equal", type := 199, offset := 7, embedded := false, tag := "", pkgPath := "", byteOffset := 24 }, { name := "GCData", type := 145, offset := 8, embedded := false, tag := "", pkgPath := "", byteOffset := 32 }, { name := "Str", type := 200, offset := 9, embedded := false, tag := "", pkgPath := "", byteOffset := 40 }, { name := "PtrToThis", type := 201, offset := 10, embedded := false, tag := "", pkgPath := "", byteOffset := 44 }] }
theorem ty203 : TyOk Tryz.prog 203 ti203 := ⟨by kernel_rfl, by kernel_rfl⟩
def tab : List (Nat × TI) := [(1, ti1), (2, ti2), (3, ti3), (4, ti4), (5, ti5), (6, ti6), (7, ti7), (8, ti8), (9, ti9), (10, ti10), (11, ti11), (12, ti12), (13, ti13), (14, ti14), (15, ti15), (16, ti16), (17, ti17), (18, ti18), (19, ti19), (21, ti21), (22, ti22), (23, ti23), (24, ti24), (25, ti25), (26, ti26), (27, ti27), (29, ti29), (31, ti31), (32, ti32), (34, ti34), (35, ti35), (36, ti36), (38, ti38), (40, ti40), (41, ti41), (42, ti42), (43, ti43), (44, ti44), (45, ti45), (46, ti46), (47, ti47), (48, ti48), (49, ti49), (51, ti51), (52, ti52), (53, ti53), (54, ti54), (55, ti55), (56, ti56), (57, ti57), (58, ti58), (59, ti59), (60, ti60), (61, ti61), (62, ti62), (63, ti63), (64, ti64), (65, ti65), (66, ti66), (67, ti67), (68, ti68), (69, ti69), (70, ti70), (71, ti71), (72, ti72), (73, ti73), (74, ti74), (75, ti75), (76, ti76), (77, ti77), (78, ti78), (79, ti79), (80, ti80), (81, ti81), (82, ti82), (83, ti83), (84, ti84), (85, ti85), (87, ti87), (88, ti88), (89, ti89), (90, ti90), (91, ti91), (92, ti92), (93, ti93), (94, ti94), (95, ti95), (96, ti96), (97, ti97), (98, ti98), (99, ti99), (100, ti100), (101, ti101), (102, ti102), (103, ti103), (104, ti104), (105, ti105), (106, ti106), (107, ti107), (108, ti108), (109, ti109), (110, ti110), (111, ti111), (112, ti112), (113, ti113), (114, ti114), (115, ti115), (116, ti116), (117, ti117), (118, ti118), (119, ti119), (123, ti123), (124, ti124), (125, ti125), (126, ti126), (127, ti127), (128, ti128), (129, ti129), (130, ti130), (131, ti131), (132, ti132), (133, ti133), (134, ti134), (135, ti135), (136, ti136), (137, ti137), (138, ti138), (139, ti139), (140, ti140), (141, ti141), (142, ti142), (143, ti143), (144, ti144), (145, ti145), (146, ti146), (147, ti147), (148, ti148), (149, ti149), (150, ti150), (151, ti151), (152, ti152), (153, ti153), (154, ti154), (155, ti155), (156, ti156), (157, ti157), (158, ti158), (160, ti160), (161, ti161), (163, ti163), (164, ti164), (165, ti165), (166, ti166), (167, ti167), (168, ti168), (169, ti169), (171, ti171), (172, ti172), (173, ti173), (174, ti174), (175, ti175), (176, ti176), (178, ti178), (180, ti180), (181, ti181), (182, ti182), (183, ti183), (184, ti184), (185, ti185), (186, ti186), (187, ti187), (188, ti188), (189, ti189), (190, ti190), (191, ti191), (192, ti192), (193, ti193), (197, ti197), (198, ti198), (199, ti199), (200, ti200), (201, ti201), (202, ti202), (203, ti203)]
theorem tab_ok : ∀ e ∈ tab, TyOk Tryz.prog e.1 e.2 := by
  unfold tab
  refine List.forall_mem_cons.2 ⟨ty1, ?_⟩
  refine List.forall_mem_cons.2 ⟨ty2, ?_⟩
  refine List.forall_mem_cons.2 ⟨ty3, ?_⟩
  refine List.forall_mem_cons.2 ⟨ty4, ?_⟩
  refine List.forall_mem_cons.2 ⟨ty5, ?_⟩
  refine List.forall_mem_cons.2 ⟨ty6, ?_⟩
  refine List.forall_mem_cons.2 ⟨ty7, ?_⟩
  refine List.forall_mem_cons.2 ⟨ty8, ?_⟩
  refine List.forall_mem_cons.2 ⟨ty9, ?_⟩
  refine List.forall_mem_cons.2 ⟨ty10, ?_⟩
  refine List.forall_mem_cons.2 ⟨ty11, ?_⟩
  refine List.forall_mem_cons.2 ⟨ty12, ?_⟩
  refine List.forall_mem_cons.2 ⟨ty13, ?_⟩
  refine List.forall_mem_cons.2 ⟨ty14, ?_⟩
  refine List.forall_mem_cons.2 ⟨ty15, ?_⟩
  refine List.forall_mem_cons.2 ⟨ty16, ?_⟩
  refine List.forall_mem_cons.2 ⟨ty17, ?_⟩
  refine List.forall_mem_cons.2 ⟨ty18, ?_⟩
  refine List.forall_mem_cons.2 ⟨ty19, ?_⟩
  refine List.forall_mem_cons.2 ⟨ty21, ?_⟩
  refine List.forall_mem_cons.2 ⟨ty22, ?_⟩
  refine List.forall_mem_cons.2 ⟨ty23, ?_⟩
  refine List.forall_mem_cons.2 ⟨ty24, ?_⟩
  refine List.forall_mem_cons.2 ⟨ty25, ?_⟩
  refine List.forall_mem_cons.2 ⟨ty26, ?_⟩
  refine List.forall_mem_cons.2 ⟨ty27, ?_⟩
  refine List.forall_mem_cons.2 ⟨ty29, ?_⟩
  refine List.forall_mem_cons.2 ⟨ty31, ?_⟩
  refine List.forall_mem_cons.2 ⟨ty32, ?_⟩
  refine List.forall_mem_cons.2 ⟨ty34, ?_⟩
  refine List.forall_mem_cons.2 ⟨ty35, ?_⟩
  refine List.forall_mem_cons.2 ⟨ty36, ?_⟩
  refine List.forall_mem_cons.2 ⟨ty38, ?_⟩
  refine List.forall_mem_cons.2 ⟨ty40, ?_⟩
  refine List.forall_mem_cons.2 ⟨ty41, ?_⟩
  refine List.forall_mem_cons.2 ⟨ty42, ?_⟩
  refine List.forall_mem_cons.2 ⟨ty43, ?_⟩
  refine List.forall_mem_cons.2 ⟨ty44, ?_⟩
  refine List.forall_mem_cons.2 ⟨ty45, ?_⟩
  refine List.forall_mem_cons.2 ⟨ty46, ?_⟩
  refine List.forall_mem_cons.2 ⟨ty47, ?_⟩
  refine List.forall_mem_cons.2 ⟨ty48, ?_⟩
  refine List.forall_mem_cons.2 ⟨ty49, ?_⟩
  refine List.forall_mem_cons.2 ⟨ty51, ?_⟩
  refine List.forall_mem_cons.2 ⟨ty52, ?_⟩
  refine List.forall_mem_cons.2 ⟨ty53, ?_⟩
  refine List.forall_mem_cons.2 ⟨ty54, ?_⟩
  refine List.forall_mem_cons.2 ⟨ty55, ?_⟩
  refine List.forall_mem_cons.2 ⟨ty56, ?_⟩
  refine List.forall_mem_cons.2 ⟨ty57, ?_⟩
  refine List.forall_mem_cons.2 ⟨ty58, ?_⟩
  refine List.forall_mem_cons.2 ⟨ty59, ?_⟩
  refine List.forall_mem_cons.2 ⟨ty60, ?_⟩
  refine List.forall_mem_cons.2 ⟨ty61, ?_⟩
  refine List.forall_mem_cons.2 ⟨ty62, ?_⟩
  refine List.forall_mem_cons.2 ⟨ty63, ?_⟩
  refine List.forall_mem_cons.2 ⟨ty64, ?_⟩
  refine List.forall_mem_cons.2 ⟨ty65, ?_⟩
  refine List.forall_mem_cons.2 ⟨ty66, ?_⟩
  refine List.forall_mem_cons.2 ⟨ty67, ?_⟩
  refine List.forall_mem_cons.2 ⟨ty68, ?_⟩
  refine List.forall_mem_cons.2 ⟨ty69, ?_⟩
  refine List.forall_mem_cons.2 ⟨ty70, ?_⟩
  refine List.forall_mem_cons.2 ⟨ty71, ?_⟩
  refine List.forall_mem_cons.2 ⟨ty72, ?_⟩
  refine List.forall_mem_cons.2 ⟨ty73, ?_⟩
  refine List.forall_mem_cons.2 ⟨ty74, ?_⟩
  refine List.forall_mem_cons.2 ⟨ty75, ?_⟩
  refine List.forall_mem_cons.2 ⟨ty76, ?_⟩
  refine List.forall_mem_cons.2 ⟨ty77, ?_⟩
  refine List.forall_mem_cons.2 ⟨ty78, ?_⟩
  refine List.forall_mem_cons.2 ⟨ty79, ?_⟩
  refine List.forall_mem_cons.2 ⟨ty80, ?_⟩
  refine List.forall_mem_cons.2 ⟨ty81, ?_⟩
  refine List.forall_mem_cons.2 ⟨ty82, ?_⟩
  refine List.forall_mem_cons.2 ⟨ty83, ?_⟩
  refine List.forall_mem_cons.2 ⟨ty84, ?_⟩
  refine List.forall_mem_cons.2 ⟨ty85, ?_⟩
  refine List.forall_mem_cons.2 ⟨ty87, ?_⟩
  refine List.forall_mem_cons.2 ⟨ty88, ?_⟩
  refine List.forall_mem_cons.2 ⟨ty89, ?_⟩
  refine List.forall_mem_cons.2 ⟨ty90, ?_⟩
  refine List.forall_mem_cons.2 ⟨ty91, ?_⟩
  refine List.forall_mem_cons.2 ⟨ty92, ?_⟩
  refine List.forall_mem_cons.2 ⟨ty93, ?_⟩
  refine List.forall_mem_cons.2 ⟨ty94, ?_⟩
  refine List.forall_mem_cons.2 ⟨ty95, ?_⟩
  refine List.forall_mem_cons.2 ⟨ty96, ?_⟩
  refine List.forall_mem_cons.2 ⟨ty97, ?_⟩
  refine List.forall_mem_cons.2 ⟨ty98, ?_⟩
  refine List.forall_mem_cons.2 ⟨ty99, ?_⟩
  refine List.forall_mem_cons.2 ⟨ty100, ?_⟩
  refine List.forall_mem_cons.2 ⟨ty101, ?_⟩
  refine List.forall_mem_cons.2 ⟨ty102, ?_⟩
  refine List.forall_mem_cons.2 ⟨ty103, ?_⟩
  refine List.forall_mem_cons.2 ⟨ty104, ?_⟩
  refine List.forall_mem_cons.2 ⟨ty105, ?_⟩
  refine List.forall_mem_cons.2 ⟨ty106, ?_⟩
  refine List.forall_mem_cons.2 ⟨ty107, ?_⟩
  refine List.forall_mem_cons.2 ⟨ty108, ?_⟩
  refine List.forall_mem_cons.2 ⟨ty109, ?_⟩
  refine List.forall_mem_cons.2 ⟨ty110, ?_⟩
  refine List.forall_mem_cons.2 ⟨ty111, ?_⟩
  refine List.forall_mem_cons.2 ⟨ty112, ?_⟩
  refine List.forall_mem_cons.2 ⟨ty113, ?_⟩
  refine List.forall_mem_cons.2 ⟨ty114, ?_⟩
  refine List.forall_mem_cons.2 ⟨ty115, ?_⟩
  refine List.forall_mem_cons.2 ⟨ty116, ?_⟩
  refine List.forall_mem_cons.2 ⟨ty117, ?_⟩
  refine List.forall_mem_cons.2 ⟨ty118, ?_⟩
  refine List.forall_mem_cons.2 ⟨ty119, ?_⟩
  refine List.forall_mem_cons.2 ⟨ty123, ?_⟩
  refine List.forall_mem_cons.2 ⟨ty124, ?_⟩
  refine List.forall_mem_cons.2 ⟨ty125, ?_⟩
  refine List.forall_mem_cons.2 ⟨ty126, ?_⟩
  refine List.forall_mem_cons.2 ⟨ty127, ?_⟩
  refine List.forall_mem_cons.2 ⟨ty128, ?_⟩
  refine List.forall_mem_cons.2 ⟨ty129, ?_⟩
  refine List.forall_mem_cons.2 ⟨ty130, ?_⟩
  refine List.forall_mem_cons.2 ⟨ty131, ?_⟩
  refine List.forall_mem_cons.2 ⟨ty132, ?_⟩
  refine List.forall_mem_cons.2 ⟨ty133, ?_⟩
  refine List.forall_mem_cons.2 ⟨ty134, ?_⟩
  refine List.forall_mem_cons.2 ⟨ty135, ?_⟩
  refine List.forall_mem_cons.2 ⟨ty136, ?_⟩
  refine List.forall_mem_cons.2 ⟨ty137, ?_⟩
  refine List.forall_mem_cons.2 ⟨ty138, ?_⟩
  refine List.forall_mem_cons.2 ⟨ty139, ?_⟩
  refine List.forall_mem_cons.2 ⟨ty140, ?_⟩
  refine List.forall_mem_cons.2 ⟨ty141, ?_⟩
  refine List.forall_mem_cons.2 ⟨ty142, ?_⟩
  refine List.forall_mem_cons.2 ⟨ty143, ?_⟩
  refine List.forall_mem_cons.2 ⟨ty144, ?_⟩
  refine List.forall_mem_cons.2 ⟨ty145, ?_⟩
  refine List.forall_mem_cons.2 ⟨ty146, ?_⟩
  refine List.forall_mem_cons.2 ⟨ty147, ?_⟩
  refine List.forall_mem_cons.2 ⟨ty148, ?_⟩
  refine List.forall_mem_cons.2 ⟨ty149, ?_⟩
  refine List.forall_mem_cons.2 ⟨ty150, ?_⟩
  refine List.forall_mem_cons.2 ⟨ty151, ?_⟩
  refine List.forall_mem_cons.2 ⟨ty152, ?_⟩
  refine List.forall_mem_cons.2 ⟨ty153, ?_⟩
  refine List.forall_mem_cons.2 ⟨ty154, ?_⟩
  refine List.forall_mem_cons.2 ⟨ty155, ?_⟩
  refine List.forall_mem_cons.2 ⟨ty156, ?_⟩
  refine List.forall_mem_cons.2 ⟨ty157, ?_⟩
  refine List.forall_mem_cons.2 ⟨ty158, ?_⟩
  refine List.forall_mem_cons.2 ⟨ty160, ?_⟩
  refine List.forall_mem_cons.2 ⟨ty161, ?_⟩
  refine List.forall_mem_cons.2 ⟨ty163, ?_⟩
  refine List.forall_mem_cons.2 ⟨ty164, ?_⟩
  refine List.forall_mem_cons.2 ⟨ty165, ?_⟩
  refine List.forall_mem_cons.2 ⟨ty166, ?_⟩
  refine List.forall_mem_cons.2 ⟨ty167, ?_⟩
  refine List.forall_mem_cons.2 ⟨ty168, ?_⟩
  refine List.forall_mem_cons.2 ⟨ty169, ?_⟩
  refine List.forall_mem_cons.2 ⟨ty171, ?_⟩
  refine List.forall_mem_cons.2 ⟨ty172, ?_⟩
  refine List.forall_mem_cons.2 ⟨ty173, ?_⟩
  refine List.forall_mem_cons.2 ⟨ty174, ?_⟩
  refine List.forall_mem_cons.2 ⟨ty175, ?_⟩
  refine List.forall_mem_cons.2 ⟨ty176, ?_⟩
  refine List.forall_mem_cons.2 ⟨ty178, ?_⟩
  refine List.forall_mem_cons.2 ⟨ty180, ?_⟩
  refine List.forall_mem_cons.2 ⟨ty181, ?_⟩
  refine List.forall_mem_cons.2 ⟨ty182, ?_⟩
  refine List.forall_mem_cons.2 ⟨ty183, ?_⟩
  refine List.forall_mem_cons.2 ⟨ty184, ?_⟩
  refine List.forall_mem_cons.2 ⟨ty185, ?_⟩
  refine List.forall_mem_cons.2 ⟨ty186, ?_⟩
  refine List.forall_mem_cons.2 ⟨ty187, ?_⟩
  refine List.forall_mem_cons.2 ⟨ty188, ?_⟩
  refine List.forall_mem_cons.2 ⟨ty189, ?_⟩
  refine List.forall_mem_cons.2 ⟨ty190, ?_⟩
  refine List.forall_mem_cons.2 ⟨ty191, ?_⟩
  refine List.forall_mem_cons.2 ⟨ty192, ?_⟩
  refine List.forall_mem_cons.2 ⟨ty193, ?_⟩
  refine List.forall_mem_cons.2 ⟨ty197, ?_⟩
  refine List.forall_mem_cons.2 ⟨ty198, ?_⟩
  refine List.forall_mem_cons.2 ⟨ty199, ?_⟩
  refine List.forall_mem_cons.2 ⟨ty200, ?_⟩
  refine List.forall_mem_cons.2 ⟨ty201, ?_⟩
  refine List.forall_mem_cons.2 ⟨ty202, ?_⟩
  refine List.forall_mem_cons.2 ⟨ty203, ?_⟩
  simp
def tys : Nat → Option TI := lookT tab
theorem tys_ok : ∀ t i, tys t = some i → TyOk Tryz.prog t i := lookT_ok tab_ok
end Go.Proofs.YtenknlnnnicdeaaGreatDoor
