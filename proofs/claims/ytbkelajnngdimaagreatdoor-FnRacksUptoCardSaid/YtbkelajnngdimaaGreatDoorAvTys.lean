/- The seat's types, as the av texts know them. Written by a program (wip/tools/tys.py). -/
import Derived.Test.YtbkelajnngdimaaGreatDoorMA
import Derived.Test.YtbkelajnngdimaaGreatDoorProg
namespace Go.Proofs.YtbkelajnngdimaaGreatDoor
open Go Go.Av
def ti1 : TI := { sz := 1, by' := 8, zero := [.nilFunc], ud := .func #[] #[] false }
theorem ty1 : TyOk Tryz.prog 1 ti1 := ⟨by kernel_rfl, by kernel_rfl⟩
def ti2 : TI := { sz := 1, by' := 8, zero := [.int .i64 0], ud := .int .i64 }
theorem ty2 : TyOk Tryz.prog 2 ti2 := ⟨by kernel_rfl, by kernel_rfl⟩
def ti3 : TI := { sz := 1, by' := 8, zero := [.int .i64 0], ud := .int .i64 }
theorem ty3 : TyOk Tryz.prog 3 ti3 := ⟨by kernel_rfl, by kernel_rfl⟩
def ti4 : TI := { sz := 1, by' := 1, zero := [.bool false], ud := .bool }
theorem ty4 : TyOk Tryz.prog 4 ti4 := ⟨by kernel_rfl, by kernel_rfl⟩
def ti5 : TI := { sz := 1, by' := 1, zero := [.int .u8 0], ud := .int .u8 }
theorem ty5 : TyOk Tryz.prog 5 ti5 := ⟨by kernel_rfl, by kernel_rfl⟩
def ti9 : TI := { sz := 1, by' := 16, zero := [.string .empty], ud := .string }
theorem ty9 : TyOk Tryz.prog 9 ti9 := ⟨by kernel_rfl, by kernel_rfl⟩
def ti22 : TI := { sz := 1, by' := 24, zero := [.slice none 0 0], ud := .slice 5 }
theorem ty22 : TyOk Tryz.prog 22 ti22 := ⟨by kernel_rfl, by kernel_rfl⟩
def ti24 : TI := { sz := 1, by' := 2, zero := [.int .i16 0], ud := .int .i16 }
theorem ty24 : TyOk Tryz.prog 24 ti24 := ⟨by kernel_rfl, by kernel_rfl⟩
def ti25 : TI := { sz := 1, by' := 24, zero := [.slice none 0 0], ud := .slice 53 }
theorem ty25 : TyOk Tryz.prog 25 ti25 := ⟨by kernel_rfl, by kernel_rfl⟩
def ti27 : TI := { sz := 2, by' := 32, zero := [.int .i16 0, .slice none 0 0], ud := .struct #[{ name := "Places", type := 24, offset := 0, embedded := false, tag := "", pkgPath := "", byteOffset := 0 }, { name := "Books", type := 25, offset := 1, embedded := false, tag := "", pkgPath := "", byteOffset := 8 }] }
theorem ty27 : TyOk Tryz.prog 27 ti27 := ⟨by kernel_rfl, by kernel_rfl⟩
def ti29 : TI := { sz := 3, by' := 3, zero := [.int .u8 0, .int .u8 0, .int .u8 0], ud := .array 3 5 }
theorem ty29 : TyOk Tryz.prog 29 ti29 := ⟨by kernel_rfl, by kernel_rfl⟩
def ti31 : TI := { sz := 8, by' := 14, zero := [.int .i16 0, .int .u8 0, .int .u8 0, .int .u8 0, .int .i16 0, .int .i16 0, .int .i16 0, .int .i16 0], ud := .struct #[{ name := "Class", type := 24, offset := 0, embedded := false, tag := "", pkgPath := "", byteOffset := 0 }, { name := "Mark", type := 29, offset := 1, embedded := false, tag := "", pkgPath := "", byteOffset := 2 }, { name := "Volume", type := 24, offset := 4, embedded := false, tag := "", pkgPath := "", byteOffset := 6 }, { name := "Wide", type := 24, offset := 5, embedded := false, tag := "", pkgPath := "", byteOffset := 8 }, { name := "High", type := 24, offset := 6, embedded := false, tag := "", pkgPath := "", byteOffset := 10 }, { name := "Weight", type := 24, offset := 7, embedded := false, tag := "", pkgPath := "", byteOffset := 12 }] }
theorem ty31 : TyOk Tryz.prog 31 ti31 := ⟨by kernel_rfl, by kernel_rfl⟩
def ti36 : TI := { sz := 1, by' := 24, zero := [.slice none 0 0], ud := .slice 31 }
theorem ty36 : TyOk Tryz.prog 36 ti36 := ⟨by kernel_rfl, by kernel_rfl⟩
def ti39 : TI := { sz := 1, by' := 24, zero := [.slice none 0 0], ud := .slice 2 }
theorem ty39 : TyOk Tryz.prog 39 ti39 := ⟨by kernel_rfl, by kernel_rfl⟩
def ti53 : TI := { sz := 9, by' := 16, zero := [.int .i16 0, .int .i16 0, .int .u8 0, .int .u8 0, .int .u8 0, .int .i16 0, .int .i16 0, .int .i16 0, .int .i16 0], ud := .struct #[{ name := "At", type := 24, offset := 0, embedded := false, tag := "", pkgPath := "", byteOffset := 0 }, { name := "Book", type := 31, offset := 1, embedded := false, tag := "", pkgPath := "", byteOffset := 2 }] }
theorem ty53 : TyOk Tryz.prog 53 ti53 := ⟨by kernel_rfl, by kernel_rfl⟩
def ti93 : TI := { sz := 1, by' := 8, zero := [.pointer none], ud := .pointer 184 }
theorem ty93 : TyOk Tryz.prog 93 ti93 := ⟨by kernel_rfl, by kernel_rfl⟩
def ti100 : TI := { sz := 1, by' := 8, zero := [.nilFunc], ud := .func #[9] #[53, 4] false }
theorem ty100 : TyOk Tryz.prog 100 ti100 := ⟨by kernel_rfl, by kernel_rfl⟩
def ti103 : TI := { sz := 1, by' := 24, zero := [.slice none 0 0], ud := .slice 4 }
theorem ty103 : TyOk Tryz.prog 103 ti103 := ⟨by kernel_rfl, by kernel_rfl⟩
def ti105 : TI := { sz := 1, by' := 8, zero := [.nilFunc], ud := .func #[31] #[4] false }
theorem ty105 : TyOk Tryz.prog 105 ti105 := ⟨by kernel_rfl, by kernel_rfl⟩
def ti108 : TI := { sz := 1, by' := 8, zero := [.pointer none], ud := .pointer 27 }
theorem ty108 : TyOk Tryz.prog 108 ti108 := ⟨by kernel_rfl, by kernel_rfl⟩
def ti110 : TI := { sz := 1, by' := 8, zero := [.pointer none], ud := .pointer 31 }
theorem ty110 : TyOk Tryz.prog 110 ti110 := ⟨by kernel_rfl, by kernel_rfl⟩
def ti125 : TI := { sz := 1, by' := 8, zero := [.nilFunc], ud := .func #[53] #[2] false }
theorem ty125 : TyOk Tryz.prog 125 ti125 := ⟨by kernel_rfl, by kernel_rfl⟩
def ti127 : TI := { sz := 1, by' := 8, zero := [.nilFunc], ud := .func #[53] #[4] false }
theorem ty127 : TyOk Tryz.prog 127 ti127 := ⟨by kernel_rfl, by kernel_rfl⟩
def ti128 : TI := { sz := 1, by' := 8, zero := [.nilFunc], ud := .func #[36] #[4] false }
theorem ty128 : TyOk Tryz.prog 128 ti128 := ⟨by kernel_rfl, by kernel_rfl⟩
def ti131 : TI := { sz := 1, by' := 8, zero := [.nilFunc], ud := .func #[31, 31] #[3] false }
theorem ty131 : TyOk Tryz.prog 131 ti131 := ⟨by kernel_rfl, by kernel_rfl⟩
def ti168 : TI := { sz := 1, by' := 24, zero := [.slice none 0 0], ud := .slice 36 }
theorem ty168 : TyOk Tryz.prog 168 ti168 := ⟨by kernel_rfl, by kernel_rfl⟩
def ti171 : TI := { sz := 3, by' := 24, zero := [.int .i64 0, .int .i64 0, .int .i64 0], ud := .array 3 2 }
theorem ty171 : TyOk Tryz.prog 171 ti171 := ⟨by kernel_rfl, by kernel_rfl⟩
def ti180 : TI := { sz := 1, by' := 1, zero := [.int .i8 0], ud := .int .i8 }
theorem ty180 : TyOk Tryz.prog 180 ti180 := ⟨by kernel_rfl, by kernel_rfl⟩
def ti181 : TI := { sz := 1, by' := 24, zero := [.slice none 0 0], ud := .slice 180 }
theorem ty181 : TyOk Tryz.prog 181 ti181 := ⟨by kernel_rfl, by kernel_rfl⟩
def ti182 : TI := { sz := 1, by' := 8, zero := [.int .u64 0], ud := .int .u64 }
theorem ty182 : TyOk Tryz.prog 182 ti182 := ⟨by kernel_rfl, by kernel_rfl⟩
def ti184 : TI := { sz := 3, by' := 40, zero := [.slice none 0 0, .int .i64 0, .int .u64 0], ud := .struct #[{ name := "code", type := 22, offset := 0, embedded := false, tag := "", pkgPath := "loop.example/g01326/spec", byteOffset := 0 }, { name := "at", type := 3, offset := 1, embedded := false, tag := "", pkgPath := "loop.example/g01326/spec", byteOffset := 24 }, { name := "seed", type := 182, offset := 2, embedded := false, tag := "", pkgPath := "loop.example/g01326/spec", byteOffset := 32 }] }
theorem ty184 : TyOk Tryz.prog 184 ti184 := ⟨by kernel_rfl, by kernel_rfl⟩
def ti187 : TI := { sz := 1, by' := 8, zero := [.nilFunc], ud := .func #[246] #[] false }
theorem ty187 : TyOk Tryz.prog 187 ti187 := ⟨by kernel_rfl, by kernel_rfl⟩
def ti188 : TI := { sz := 1, by' := 8, zero := [.nilFunc], ud := .func #[246] #[] false }
theorem ty188 : TyOk Tryz.prog 188 ti188 := ⟨by kernel_rfl, by kernel_rfl⟩
def ti195 : TI := { sz := 1, by' := 8, zero := [.nilFunc], ud := .func #[53] #[9] false }
theorem ty195 : TyOk Tryz.prog 195 ti195 := ⟨by kernel_rfl, by kernel_rfl⟩
def ti197 : TI := { sz := 1, by' := 8, zero := [.nilFunc], ud := .func #[53] #[31] false }
theorem ty197 : TyOk Tryz.prog 197 ti197 := ⟨by kernel_rfl, by kernel_rfl⟩
def ti199 : TI := { sz := 1, by' := 8, zero := [.nilFunc], ud := .func #[5] #[4] false }
theorem ty199 : TyOk Tryz.prog 199 ti199 := ⟨by kernel_rfl, by kernel_rfl⟩
def ti246 : TI := { sz := 1, by' := 8, zero := [.nilFunc], ud := .func #[9] #[4] false }
theorem ty246 : TyOk Tryz.prog 246 ti246 := ⟨by kernel_rfl, by kernel_rfl⟩
def ti247 : TI := { sz := 1, by' := 24, zero := [.slice none 0 0], ud := .slice 9 }
theorem ty247 : TyOk Tryz.prog 247 ti247 := ⟨by kernel_rfl, by kernel_rfl⟩
def ti253 : TI := { sz := 1, by' := 8, zero := [.pointer none], ud := .pointer 255 }
theorem ty253 : TyOk Tryz.prog 253 ti253 := ⟨by kernel_rfl, by kernel_rfl⟩
def ti255 : TI := { sz := 2, by' := 32, zero := [.pointer none, .slice none 0 0], ud := .struct #[{ name := "addr", type := 253, offset := 0, embedded := false, tag := "", pkgPath := "strings", byteOffset := 0 }, { name := "buf", type := 22, offset := 1, embedded := false, tag := "", pkgPath := "strings", byteOffset := 8 }] }
theorem ty255 : TyOk Tryz.prog 255 ti255 := ⟨by kernel_rfl, by kernel_rfl⟩
def ti260 : TI := { sz := 1, by' := 8, zero := [.int .u64 0], ud := .int .u64 }
theorem ty260 : TyOk Tryz.prog 260 ti260 := ⟨by kernel_rfl, by kernel_rfl⟩
def tab : List (Nat × TI) := [(1, ti1), (2, ti2), (3, ti3), (4, ti4), (5, ti5), (9, ti9), (22, ti22), (24, ti24), (25, ti25), (27, ti27), (29, ti29), (31, ti31), (36, ti36), (39, ti39), (53, ti53), (93, ti93), (100, ti100), (103, ti103), (105, ti105), (108, ti108), (110, ti110), (125, ti125), (127, ti127), (128, ti128), (131, ti131), (168, ti168), (171, ti171), (180, ti180), (181, ti181), (182, ti182), (184, ti184), (187, ti187), (188, ti188), (195, ti195), (197, ti197), (199, ti199), (246, ti246), (247, ti247), (253, ti253), (255, ti255), (260, ti260)]
theorem tab_ok : ∀ e ∈ tab, TyOk Tryz.prog e.1 e.2 := by
  unfold tab
  refine List.forall_mem_cons.2 ⟨ty1, ?_⟩
  refine List.forall_mem_cons.2 ⟨ty2, ?_⟩
  refine List.forall_mem_cons.2 ⟨ty3, ?_⟩
  refine List.forall_mem_cons.2 ⟨ty4, ?_⟩
  refine List.forall_mem_cons.2 ⟨ty5, ?_⟩
  refine List.forall_mem_cons.2 ⟨ty9, ?_⟩
  refine List.forall_mem_cons.2 ⟨ty22, ?_⟩
  refine List.forall_mem_cons.2 ⟨ty24, ?_⟩
  refine List.forall_mem_cons.2 ⟨ty25, ?_⟩
  refine List.forall_mem_cons.2 ⟨ty27, ?_⟩
  refine List.forall_mem_cons.2 ⟨ty29, ?_⟩
  refine List.forall_mem_cons.2 ⟨ty31, ?_⟩
  refine List.forall_mem_cons.2 ⟨ty36, ?_⟩
  refine List.forall_mem_cons.2 ⟨ty39, ?_⟩
  refine List.forall_mem_cons.2 ⟨ty53, ?_⟩
  refine List.forall_mem_cons.2 ⟨ty93, ?_⟩
  refine List.forall_mem_cons.2 ⟨ty100, ?_⟩
  refine List.forall_mem_cons.2 ⟨ty103, ?_⟩
  refine List.forall_mem_cons.2 ⟨ty105, ?_⟩
  refine List.forall_mem_cons.2 ⟨ty108, ?_⟩
  refine List.forall_mem_cons.2 ⟨ty110, ?_⟩
  refine List.forall_mem_cons.2 ⟨ty125, ?_⟩
  refine List.forall_mem_cons.2 ⟨ty127, ?_⟩
  refine List.forall_mem_cons.2 ⟨ty128, ?_⟩
  refine List.forall_mem_cons.2 ⟨ty131, ?_⟩
  refine List.forall_mem_cons.2 ⟨ty168, ?_⟩
  refine List.forall_mem_cons.2 ⟨ty171, ?_⟩
  refine List.forall_mem_cons.2 ⟨ty180, ?_⟩
  refine List.forall_mem_cons.2 ⟨ty181, ?_⟩
  refine List.forall_mem_cons.2 ⟨ty182, ?_⟩
  refine List.forall_mem_cons.2 ⟨ty184, ?_⟩
  refine List.forall_mem_cons.2 ⟨ty187, ?_⟩
  refine List.forall_mem_cons.2 ⟨ty188, ?_⟩
  refine List.forall_mem_cons.2 ⟨ty195, ?_⟩
  refine List.forall_mem_cons.2 ⟨ty197, ?_⟩
  refine List.forall_mem_cons.2 ⟨ty199, ?_⟩
  refine List.forall_mem_cons.2 ⟨ty246, ?_⟩
  refine List.forall_mem_cons.2 ⟨ty247, ?_⟩
  refine List.forall_mem_cons.2 ⟨ty253, ?_⟩
  refine List.forall_mem_cons.2 ⟨ty255, ?_⟩
  refine List.forall_mem_cons.2 ⟨ty260, ?_⟩
  simp
def tys : Nat → Option TI := lookT tab
theorem tys_ok : ∀ t i, tys t = some i → TyOk Tryz.prog t i := lookT_ok tab_ok
end Go.Proofs.YtbkelajnngdimaaGreatDoor
