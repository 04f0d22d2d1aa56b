/- Facts on the types of the seat's program, each by the kernel. -/
import Derived.Test.YtknciobaifdafaaGreatDoorQB
import Derived.Test.YtknciobaifdafaaGreatDoorProg
import Derived.KernelRfl
namespace Go.Proofs.YtknciobaifdafaaGreatDoor.EF
open Go Go.Pv
theorem uf20 : isIfaceB Tryz.prog 20 = true := by kernel_rfl
theorem uf132 : isIfaceB Tryz.prog 132 = true := by kernel_rfl
theorem uf133 : isIfaceB Tryz.prog 133 = true := by kernel_rfl
theorem ti2 : tinfo Tryz.prog 2 = some ⟨false, 1, 8, some [.int .i64 0]⟩ := by kernel_rfl
theorem ti3 : tinfo Tryz.prog 3 = some ⟨false, 1, 8, some [.int .i64 0]⟩ := by kernel_rfl
theorem ti4 : tinfo Tryz.prog 4 = some ⟨false, 1, 1, some [.bool false]⟩ := by kernel_rfl
theorem ti5 : tinfo Tryz.prog 5 = some ⟨false, 1, 1, some [.int .u8 0]⟩ := by kernel_rfl
theorem ti6 : tinfo Tryz.prog 6 = some ⟨false, 1, 1, some [.int .u8 0]⟩ := by kernel_rfl
theorem ti7 : tinfo Tryz.prog 7 = some ⟨true, 4, 24, some [.int .i64 0, .int .i64 0, .bool false, .int .u8 0]⟩ := by kernel_rfl
theorem ti8 : tinfo Tryz.prog 8 = some ⟨true, 4, 24, some [.int .i64 0, .int .i64 0, .bool false, .int .u8 0]⟩ := by kernel_rfl
theorem ti9 : tinfo Tryz.prog 9 = some ⟨false, 1, 16, some [.string ByteArray.empty]⟩ := by kernel_rfl
theorem ti10 : tinfo Tryz.prog 10 = some ⟨false, 1, 16, some [.string ByteArray.empty]⟩ := by kernel_rfl
theorem ti11 : tinfo Tryz.prog 11 = some ⟨false, 1, 16, some [.string ByteArray.empty]⟩ := by kernel_rfl
theorem ti12 : tinfo Tryz.prog 12 = some ⟨false, 1, 8, some [.int .u64 0]⟩ := by kernel_rfl
theorem ti13 : tinfo Tryz.prog 13 = some ⟨true, 2, 24, some [.string ByteArray.empty, .int .u64 0]⟩ := by kernel_rfl
theorem ti14 : tinfo Tryz.prog 14 = some ⟨true, 2, 24, some [.string ByteArray.empty, .int .u64 0]⟩ := by kernel_rfl
theorem ti15 : tinfo Tryz.prog 15 = some ⟨false, 1, 8, some [.pointer none]⟩ := by kernel_rfl
theorem ti16 : tinfo Tryz.prog 16 = some ⟨false, 1, 8, some [.pointer none]⟩ := by kernel_rfl
theorem ti17 : tinfo Tryz.prog 17 = some ⟨false, 1, 8, some [.pointer none]⟩ := by kernel_rfl
theorem ti18 : tinfo Tryz.prog 18 = some ⟨true, 1, 8, some [.pointer none]⟩ := by kernel_rfl
theorem ti19 : tinfo Tryz.prog 19 = some ⟨true, 1, 8, some [.pointer none]⟩ := by kernel_rfl
theorem ti21 : tinfo Tryz.prog 21 = some ⟨false, 1, 4, some [.int .i32 0]⟩ := by kernel_rfl
theorem ti22 : tinfo Tryz.prog 22 = some ⟨false, 1, 24, some [.slice none 0 0]⟩ := by kernel_rfl
theorem ti23 : tinfo Tryz.prog 23 = some ⟨false, 1, 24, some [.slice none 0 0]⟩ := by kernel_rfl
theorem ti24 : tinfo Tryz.prog 24 = some ⟨true, 4, 64, some [.slice none 0 0, .slice none 0 0, .int .i64 0, .int .i64 0]⟩ := by kernel_rfl
theorem ti25 : tinfo Tryz.prog 25 = some ⟨true, 4, 64, some [.slice none 0 0, .slice none 0 0, .int .i64 0, .int .i64 0]⟩ := by kernel_rfl
theorem ti26 : tinfo Tryz.prog 26 = some ⟨true, 8, 112, some [.slice none 0 0, .slice none 0 0, .int .i64 0, .int .i64 0, .int .i64 0, .int .i64 0, .int .i64 0, .slice none 0 0]⟩ := by kernel_rfl
theorem ti27 : tinfo Tryz.prog 27 = some ⟨true, 8, 112, some [.slice none 0 0, .slice none 0 0, .int .i64 0, .int .i64 0, .int .i64 0, .int .i64 0, .int .i64 0, .slice none 0 0]⟩ := by kernel_rfl
theorem ti28 : tinfo Tryz.prog 28 = some ⟨false, 1, 24, some [.slice none 0 0]⟩ := by kernel_rfl
theorem ti31 : tinfo Tryz.prog 31 = some ⟨false, 1, 24, some [.slice none 0 0]⟩ := by kernel_rfl
theorem ti32 : tinfo Tryz.prog 32 = some ⟨true, 4, 64, some [.slice none 0 0, .slice none 0 0, .int .i64 0, .int .i64 0]⟩ := by kernel_rfl
theorem ti33 : tinfo Tryz.prog 33 = some ⟨true, 4, 64, some [.slice none 0 0, .slice none 0 0, .int .i64 0, .int .i64 0]⟩ := by kernel_rfl
theorem ti34 : tinfo Tryz.prog 34 = some ⟨true, 8, 112, some [.slice none 0 0, .slice none 0 0, .int .i64 0, .int .i64 0, .int .i64 0, .int .i64 0, .int .i64 0, .slice none 0 0]⟩ := by kernel_rfl
theorem ti35 : tinfo Tryz.prog 35 = some ⟨true, 8, 112, some [.slice none 0 0, .slice none 0 0, .int .i64 0, .int .i64 0, .int .i64 0, .int .i64 0, .int .i64 0, .slice none 0 0]⟩ := by kernel_rfl
theorem ti39 : tinfo Tryz.prog 39 = some ⟨false, 1, 24, some [.slice none 0 0]⟩ := by kernel_rfl
theorem ti46 : tinfo Tryz.prog 46 = some ⟨false, 1, 24, some [.slice none 0 0]⟩ := by kernel_rfl
theorem ti71 : tinfo Tryz.prog 71 = some ⟨true, 2, 24, some [.int .i64 0, .string ByteArray.empty]⟩ := by kernel_rfl
theorem ti72 : tinfo Tryz.prog 72 = some ⟨true, 2, 24, some [.int .i64 0, .string ByteArray.empty]⟩ := by kernel_rfl
theorem ti77 : tinfo Tryz.prog 77 = some ⟨true, 2, 24, some [.int .i64 0, .string ByteArray.empty]⟩ := by kernel_rfl
theorem ti83 : tinfo Tryz.prog 83 = some ⟨false, 1, 8, some [.pointer none]⟩ := by kernel_rfl
theorem ti90 : tinfo Tryz.prog 90 = some ⟨false, 1, 24, some [.slice none 0 0]⟩ := by kernel_rfl
theorem ti95 : tinfo Tryz.prog 95 = some ⟨false, 1, 24, some [.slice none 0 0]⟩ := by kernel_rfl
theorem ti96 : tinfo Tryz.prog 96 = some ⟨true, 6, 56, some [.int .i64 0, .int .i64 0, .int .i64 0, .int .i64 0, .bool false, .string ByteArray.empty]⟩ := by kernel_rfl
theorem ti97 : tinfo Tryz.prog 97 = some ⟨true, 6, 56, some [.int .i64 0, .int .i64 0, .int .i64 0, .int .i64 0, .bool false, .string ByteArray.empty]⟩ := by kernel_rfl
theorem ti110 : tinfo Tryz.prog 110 = some ⟨true, 2, 24, some [.int .i64 0, .string ByteArray.empty]⟩ := by kernel_rfl
theorem ti122 : tinfo Tryz.prog 122 = some ⟨true, 2, 32, some [.slice none 0 0, .int .i64 0]⟩ := by kernel_rfl
theorem ti123 : tinfo Tryz.prog 123 = some ⟨true, 2, 32, some [.slice none 0 0, .int .i64 0]⟩ := by kernel_rfl
theorem ti150 : tinfo Tryz.prog 150 = some ⟨true, 2, 24, some [.int .i64 0, .string ByteArray.empty]⟩ := by kernel_rfl
theorem ti153 : tinfo Tryz.prog 153 = some ⟨false, 1, 8, some [.pointer none]⟩ := by kernel_rfl
theorem ti157 : tinfo Tryz.prog 157 = some ⟨true, 8, 80, some [.int .i64 0, .slice none 0 0, .int .i64 0, .int .i64 0, .int .i64 0, .int .i64 0, .int .i64 0, .bool false]⟩ := by kernel_rfl
theorem ti158 : tinfo Tryz.prog 158 = some ⟨true, 8, 80, some [.int .i64 0, .slice none 0 0, .int .i64 0, .int .i64 0, .int .i64 0, .int .i64 0, .int .i64 0, .bool false]⟩ := by kernel_rfl
theorem ti168 : tinfo Tryz.prog 168 = some ⟨false, 1, 8, some [.pointer none]⟩ := by kernel_rfl
theorem ti169 : tinfo Tryz.prog 169 = some ⟨true, 2, 32, some [.pointer none, .slice none 0 0]⟩ := by kernel_rfl
theorem ti170 : tinfo Tryz.prog 170 = some ⟨true, 2, 32, some [.pointer none, .slice none 0 0]⟩ := by kernel_rfl
theorem ti176 : tinfo Tryz.prog 176 = some ⟨false, 1, 8, some [.int .i64 0]⟩ := by kernel_rfl
theorem ti179 : tinfo Tryz.prog 179 = some ⟨false, 1, 8, some [.pointer none]⟩ := by kernel_rfl
theorem ti184 : tinfo Tryz.prog 184 = some ⟨false, 1, 8, some [.pointer none]⟩ := by kernel_rfl
theorem ti187 : tinfo Tryz.prog 187 = some ⟨false, 1, 8, some [.int .u64 0]⟩ := by kernel_rfl
theorem ti188 : tinfo Tryz.prog 188 = some ⟨false, 1, 8, some [.int .u64 0]⟩ := by kernel_rfl
theorem ti192 : tinfo Tryz.prog 192 = some ⟨true, 3, 48, some [.string ByteArray.empty, .string ByteArray.empty, .nilIface]⟩ := by kernel_rfl
theorem ti193 : tinfo Tryz.prog 193 = some ⟨true, 3, 48, some [.string ByteArray.empty, .string ByteArray.empty, .nilIface]⟩ := by kernel_rfl
theorem ti197 : tinfo Tryz.prog 197 = some ⟨true, 24, 24, some [.int .u8 0, .int .u8 0, .int .u8 0, .int .u8 0, .int .u8 0, .int .u8 0, .int .u8 0, .int .u8 0, .int .u8 0, .int .u8 0, .int .u8 0, .int .u8 0, .int .u8 0, .int .u8 0, .int .u8 0, .int .u8 0, .int .u8 0, .int .u8 0, .int .u8 0, .int .u8 0, .int .u8 0, .int .u8 0, .int .u8 0, .int .u8 0]⟩ := by kernel_rfl
theorem ti202 : tinfo Tryz.prog 202 = some ⟨false, 1, 8, some [.pointer none]⟩ := by kernel_rfl
theorem ti206 : tinfo Tryz.prog 206 = some ⟨false, 1, 4, some [.int .u32 0]⟩ := by kernel_rfl
theorem ti210 : tinfo Tryz.prog 210 = some ⟨false, 1, 8, some [.pointer none]⟩ := by kernel_rfl
theorem ti211 : tinfo Tryz.prog 211 = some ⟨true, 1, 16, some [.string ByteArray.empty]⟩ := by kernel_rfl
theorem ti212 : tinfo Tryz.prog 212 = some ⟨true, 1, 16, some [.string ByteArray.empty]⟩ := by kernel_rfl
theorem ti214 : tinfo Tryz.prog 214 = some ⟨true, 20, 160, some [.int .u64 0, .int .u64 0, .int .u64 0, .int .u64 0, .int .u64 0, .int .u64 0, .int .u64 0, .int .u64 0, .int .u64 0, .int .u64 0, .int .u64 0, .int .u64 0, .int .u64 0, .int .u64 0, .int .u64 0, .int .u64 0, .int .u64 0, .int .u64 0, .int .u64 0, .int .u64 0]⟩ := by kernel_rfl
theorem ti218 : tinfo Tryz.prog 218 = some ⟨true, 2, 2, some [.int .u8 0, .int .u8 0]⟩ := by kernel_rfl
theorem ti219 : tinfo Tryz.prog 219 = some ⟨true, 2, 2, some [.int .u8 0, .int .u8 0]⟩ := by kernel_rfl
theorem ti220 : tinfo Tryz.prog 220 = some ⟨true, 32, 32, some [.int .u8 0, .int .u8 0, .int .u8 0, .int .u8 0, .int .u8 0, .int .u8 0, .int .u8 0, .int .u8 0, .int .u8 0, .int .u8 0, .int .u8 0, .int .u8 0, .int .u8 0, .int .u8 0, .int .u8 0, .int .u8 0, .int .u8 0, .int .u8 0, .int .u8 0, .int .u8 0, .int .u8 0, .int .u8 0, .int .u8 0, .int .u8 0, .int .u8 0, .int .u8 0, .int .u8 0, .int .u8 0, .int .u8 0, .int .u8 0, .int .u8 0, .int .u8 0]⟩ := by kernel_rfl
theorem ti222 : tinfo Tryz.prog 222 = some ⟨true, 32, 32, some [.int .u8 0, .int .u8 0, .int .u8 0, .int .u8 0, .int .u8 0, .int .u8 0, .int .u8 0, .int .u8 0, .int .u8 0, .int .u8 0, .int .u8 0, .int .u8 0, .int .u8 0, .int .u8 0, .int .u8 0, .int .u8 0, .int .u8 0, .int .u8 0, .int .u8 0, .int .u8 0, .int .u8 0, .int .u8 0, .int .u8 0, .int .u8 0, .int .u8 0, .int .u8 0, .int .u8 0, .int .u8 0, .int .u8 0, .int .u8 0, .int .u8 0, .int .u8 0]⟩ := by kernel_rfl
theorem ti223 : tinfo Tryz.prog 223 = some ⟨true, 64, 64, some [.int .u8 0, .int .u8 0, .int .u8 0, .int .u8 0, .int .u8 0, .int .u8 0, .int .u8 0, .int .u8 0, .int .u8 0, .int .u8 0, .int .u8 0, .int .u8 0, .int .u8 0, .int .u8 0, .int .u8 0, .int .u8 0, .int .u8 0, .int .u8 0, .int .u8 0, .int .u8 0, .int .u8 0, .int .u8 0, .int .u8 0, .int .u8 0, .int .u8 0, .int .u8 0, .int .u8 0, .int .u8 0, .int .u8 0, .int .u8 0, .int .u8 0, .int .u8 0, .int .u8 0, .int .u8 0, .int .u8 0, .int .u8 0, .int .u8 0, .int .u8 0, .int .u8 0, .int .u8 0, .int .u8 0, .int .u8 0, .int .u8 0, .int .u8 0, .int .u8 0, .int .u8 0, .int .u8 0, .int .u8 0, .int .u8 0, .int .u8 0, .int .u8 0, .int .u8 0, .int .u8 0, .int .u8 0, .int .u8 0, .int .u8 0, .int .u8 0, .int .u8 0, .int .u8 0, .int .u8 0, .int .u8 0, .int .u8 0, .int .u8 0, .int .u8 0]⟩ := by kernel_rfl
theorem ti224 : tinfo Tryz.prog 224 = some ⟨true, 4, 40, some [.pointer none, .pointer none, .pointer none, .string ByteArray.empty]⟩ := by kernel_rfl
theorem ti225 : tinfo Tryz.prog 225 = some ⟨true, 4, 40, some [.pointer none, .pointer none, .pointer none, .string ByteArray.empty]⟩ := by kernel_rfl
theorem ti226 : tinfo Tryz.prog 226 = some ⟨true, 0, 0, some []⟩ := by kernel_rfl
theorem ti227 : tinfo Tryz.prog 227 = some ⟨true, 0, 0, some []⟩ := by kernel_rfl
theorem ti228 : tinfo Tryz.prog 228 = some ⟨true, 0, 0, some []⟩ := by kernel_rfl
theorem ti230 : tinfo Tryz.prog 230 = some ⟨false, 1, 1, some [.int .u8 0]⟩ := by kernel_rfl
theorem ti231 : tinfo Tryz.prog 231 = some ⟨false, 1, 1, some [.int .u8 0]⟩ := by kernel_rfl
theorem ti233 : tinfo Tryz.prog 233 = some ⟨false, 1, 4, some [.int .i32 0]⟩ := by kernel_rfl
theorem ti234 : tinfo Tryz.prog 234 = some ⟨false, 1, 4, some [.int .i32 0]⟩ := by kernel_rfl
theorem ti235 : tinfo Tryz.prog 235 = some ⟨true, 11, 48, some [.int .u64 0, .int .u64 0, .int .u32 0, .int .u8 0, .int .u8 0, .int .u8 0, .int .u8 0, .nilFunc, .pointer none, .int .i32 0, .int .i32 0]⟩ := by kernel_rfl
theorem ti236 : tinfo Tryz.prog 236 = some ⟨true, 11, 48, some [.int .u64 0, .int .u64 0, .int .u32 0, .int .u8 0, .int .u8 0, .int .u8 0, .int .u8 0, .nilFunc, .pointer none, .int .i32 0, .int .i32 0]⟩ := by kernel_rfl
theorem ui2 : Tryz.prog.underlying 2 = some (.int .i64) := by kernel_rfl
theorem ui3 : Tryz.prog.underlying 3 = some (.int .i64) := by kernel_rfl
theorem ub4 : Tryz.prog.underlying 4 = some .bool := by kernel_rfl
theorem ui5 : Tryz.prog.underlying 5 = some (.int .u8) := by kernel_rfl
theorem ui6 : Tryz.prog.underlying 6 = some (.int .u8) := by kernel_rfl
theorem sp7 : splaces Tryz.prog 7 = some [(0, 1), (1, 1), (2, 1), (3, 1)] := by kernel_rfl
theorem fo7_0 : foff Tryz.prog 7 0 = some 0 := by kernel_rfl
theorem fo7_1 : foff Tryz.prog 7 1 = some 1 := by kernel_rfl
theorem fo7_2 : foff Tryz.prog 7 2 = some 2 := by kernel_rfl
theorem fo7_3 : foff Tryz.prog 7 3 = some 3 := by kernel_rfl
theorem sp8 : splaces Tryz.prog 8 = some [(0, 1), (1, 1), (2, 1), (3, 1)] := by kernel_rfl
theorem fo8_0 : foff Tryz.prog 8 0 = some 0 := by kernel_rfl
theorem fo8_1 : foff Tryz.prog 8 1 = some 1 := by kernel_rfl
theorem fo8_2 : foff Tryz.prog 8 2 = some 2 := by kernel_rfl
theorem fo8_3 : foff Tryz.prog 8 3 = some 3 := by kernel_rfl
theorem us9 : Tryz.prog.underlying 9 = some .string := by kernel_rfl
theorem us10 : Tryz.prog.underlying 10 = some .string := by kernel_rfl
theorem us11 : Tryz.prog.underlying 11 = some .string := by kernel_rfl
theorem ui12 : Tryz.prog.underlying 12 = some (.int .u64) := by kernel_rfl
theorem sp13 : splaces Tryz.prog 13 = some [(0, 1), (1, 1)] := by kernel_rfl
theorem fo13_0 : foff Tryz.prog 13 0 = some 0 := by kernel_rfl
theorem fo13_1 : foff Tryz.prog 13 1 = some 1 := by kernel_rfl
theorem sp14 : splaces Tryz.prog 14 = some [(0, 1), (1, 1)] := by kernel_rfl
theorem fo14_0 : foff Tryz.prog 14 0 = some 0 := by kernel_rfl
theorem fo14_1 : foff Tryz.prog 14 1 = some 1 := by kernel_rfl
theorem sp18 : splaces Tryz.prog 18 = some [(0, 1)] := by kernel_rfl
theorem fo18_0 : foff Tryz.prog 18 0 = some 0 := by kernel_rfl
theorem sp19 : splaces Tryz.prog 19 = some [(0, 1)] := by kernel_rfl
theorem fo19_0 : foff Tryz.prog 19 0 = some 0 := by kernel_rfl
theorem ui21 : Tryz.prog.underlying 21 = some (.int .i32) := by kernel_rfl
theorem se22 : selem Tryz.prog 22 = some (9, ⟨false, 1, 16, some [.string ByteArray.empty]⟩) := by kernel_rfl
theorem se23 : selem Tryz.prog 23 = some (150, ⟨true, 2, 24, some [.int .i64 0, .string ByteArray.empty]⟩) := by kernel_rfl
theorem sp24 : splaces Tryz.prog 24 = some [(0, 1), (1, 1), (2, 1), (3, 1)] := by kernel_rfl
theorem fo24_0 : foff Tryz.prog 24 0 = some 0 := by kernel_rfl
theorem fo24_1 : foff Tryz.prog 24 1 = some 1 := by kernel_rfl
theorem fo24_2 : foff Tryz.prog 24 2 = some 2 := by kernel_rfl
theorem fo24_3 : foff Tryz.prog 24 3 = some 3 := by kernel_rfl
theorem sp25 : splaces Tryz.prog 25 = some [(0, 1), (1, 1), (2, 1), (3, 1)] := by kernel_rfl
theorem fo25_0 : foff Tryz.prog 25 0 = some 0 := by kernel_rfl
theorem fo25_1 : foff Tryz.prog 25 1 = some 1 := by kernel_rfl
theorem fo25_2 : foff Tryz.prog 25 2 = some 2 := by kernel_rfl
theorem fo25_3 : foff Tryz.prog 25 3 = some 3 := by kernel_rfl
theorem sp26 : splaces Tryz.prog 26 = some [(0, 4), (4, 1), (5, 1), (6, 1), (7, 1)] := by kernel_rfl
theorem fo26_0 : foff Tryz.prog 26 0 = some 0 := by kernel_rfl
theorem fo26_1 : foff Tryz.prog 26 1 = some 4 := by kernel_rfl
theorem fo26_2 : foff Tryz.prog 26 2 = some 5 := by kernel_rfl
theorem fo26_3 : foff Tryz.prog 26 3 = some 6 := by kernel_rfl
theorem fo26_4 : foff Tryz.prog 26 4 = some 7 := by kernel_rfl
theorem sp27 : splaces Tryz.prog 27 = some [(0, 4), (4, 1), (5, 1), (6, 1), (7, 1)] := by kernel_rfl
theorem fo27_0 : foff Tryz.prog 27 0 = some 0 := by kernel_rfl
theorem fo27_1 : foff Tryz.prog 27 1 = some 4 := by kernel_rfl
theorem fo27_2 : foff Tryz.prog 27 2 = some 5 := by kernel_rfl
theorem fo27_3 : foff Tryz.prog 27 3 = some 6 := by kernel_rfl
theorem fo27_4 : foff Tryz.prog 27 4 = some 7 := by kernel_rfl
theorem se28 : selem Tryz.prog 28 = some (72, ⟨true, 2, 24, some [.int .i64 0, .string ByteArray.empty]⟩) := by kernel_rfl
theorem se31 : selem Tryz.prog 31 = some (110, ⟨true, 2, 24, some [.int .i64 0, .string ByteArray.empty]⟩) := by kernel_rfl
theorem sp32 : splaces Tryz.prog 32 = some [(0, 1), (1, 1), (2, 1), (3, 1)] := by kernel_rfl
theorem fo32_0 : foff Tryz.prog 32 0 = some 0 := by kernel_rfl
theorem fo32_1 : foff Tryz.prog 32 1 = some 1 := by kernel_rfl
theorem fo32_2 : foff Tryz.prog 32 2 = some 2 := by kernel_rfl
theorem fo32_3 : foff Tryz.prog 32 3 = some 3 := by kernel_rfl
theorem sp33 : splaces Tryz.prog 33 = some [(0, 1), (1, 1), (2, 1), (3, 1)] := by kernel_rfl
theorem fo33_0 : foff Tryz.prog 33 0 = some 0 := by kernel_rfl
theorem fo33_1 : foff Tryz.prog 33 1 = some 1 := by kernel_rfl
theorem fo33_2 : foff Tryz.prog 33 2 = some 2 := by kernel_rfl
theorem fo33_3 : foff Tryz.prog 33 3 = some 3 := by kernel_rfl
theorem sp34 : splaces Tryz.prog 34 = some [(0, 4), (4, 1), (5, 1), (6, 1), (7, 1)] := by kernel_rfl
theorem fo34_0 : foff Tryz.prog 34 0 = some 0 := by kernel_rfl
theorem fo34_1 : foff Tryz.prog 34 1 = some 4 := by kernel_rfl
theorem fo34_2 : foff Tryz.prog 34 2 = some 5 := by kernel_rfl
theorem fo34_3 : foff Tryz.prog 34 3 = some 6 := by kernel_rfl
theorem fo34_4 : foff Tryz.prog 34 4 = some 7 := by kernel_rfl
theorem sp35 : splaces Tryz.prog 35 = some [(0, 4), (4, 1), (5, 1), (6, 1), (7, 1)] := by kernel_rfl
theorem fo35_0 : foff Tryz.prog 35 0 = some 0 := by kernel_rfl
theorem fo35_1 : foff Tryz.prog 35 1 = some 4 := by kernel_rfl
theorem fo35_2 : foff Tryz.prog 35 2 = some 5 := by kernel_rfl
theorem fo35_3 : foff Tryz.prog 35 3 = some 6 := by kernel_rfl
theorem fo35_4 : foff Tryz.prog 35 4 = some 7 := by kernel_rfl
theorem se39 : selem Tryz.prog 39 = some (77, ⟨true, 2, 24, some [.int .i64 0, .string ByteArray.empty]⟩) := by kernel_rfl
theorem se46 : selem Tryz.prog 46 = some (5, ⟨false, 1, 1, some [.int .u8 0]⟩) := by kernel_rfl
theorem by46 : isBytes Tryz.prog 46 = some 5 := by kernel_rfl
theorem sp71 : splaces Tryz.prog 71 = some [(0, 1), (1, 1)] := by kernel_rfl
theorem fo71_0 : foff Tryz.prog 71 0 = some 0 := by kernel_rfl
theorem fo71_1 : foff Tryz.prog 71 1 = some 1 := by kernel_rfl
theorem sp72 : splaces Tryz.prog 72 = some [(0, 1), (1, 1)] := by kernel_rfl
theorem fo72_0 : foff Tryz.prog 72 0 = some 0 := by kernel_rfl
theorem fo72_1 : foff Tryz.prog 72 1 = some 1 := by kernel_rfl
theorem sp77 : splaces Tryz.prog 77 = some [(0, 1), (1, 1)] := by kernel_rfl
theorem fo77_0 : foff Tryz.prog 77 0 = some 0 := by kernel_rfl
theorem fo77_1 : foff Tryz.prog 77 1 = some 1 := by kernel_rfl
theorem se90 : selem Tryz.prog 90 = some (3, ⟨false, 1, 8, some [.int .i64 0]⟩) := by kernel_rfl
theorem se95 : selem Tryz.prog 95 = some (97, ⟨true, 6, 56, some [.int .i64 0, .int .i64 0, .int .i64 0, .int .i64 0, .bool false, .string ByteArray.empty]⟩) := by kernel_rfl
theorem sp96 : splaces Tryz.prog 96 = some [(0, 1), (1, 1), (2, 1), (3, 1), (4, 1), (5, 1)] := by kernel_rfl
theorem fo96_0 : foff Tryz.prog 96 0 = some 0 := by kernel_rfl
theorem fo96_1 : foff Tryz.prog 96 1 = some 1 := by kernel_rfl
theorem fo96_2 : foff Tryz.prog 96 2 = some 2 := by kernel_rfl
theorem fo96_3 : foff Tryz.prog 96 3 = some 3 := by kernel_rfl
theorem fo96_4 : foff Tryz.prog 96 4 = some 4 := by kernel_rfl
theorem fo96_5 : foff Tryz.prog 96 5 = some 5 := by kernel_rfl
theorem sp97 : splaces Tryz.prog 97 = some [(0, 1), (1, 1), (2, 1), (3, 1), (4, 1), (5, 1)] := by kernel_rfl
theorem fo97_0 : foff Tryz.prog 97 0 = some 0 := by kernel_rfl
theorem fo97_1 : foff Tryz.prog 97 1 = some 1 := by kernel_rfl
theorem fo97_2 : foff Tryz.prog 97 2 = some 2 := by kernel_rfl
theorem fo97_3 : foff Tryz.prog 97 3 = some 3 := by kernel_rfl
theorem fo97_4 : foff Tryz.prog 97 4 = some 4 := by kernel_rfl
theorem fo97_5 : foff Tryz.prog 97 5 = some 5 := by kernel_rfl
theorem sp110 : splaces Tryz.prog 110 = some [(0, 1), (1, 1)] := by kernel_rfl
theorem fo110_0 : foff Tryz.prog 110 0 = some 0 := by kernel_rfl
theorem fo110_1 : foff Tryz.prog 110 1 = some 1 := by kernel_rfl
theorem sp122 : splaces Tryz.prog 122 = some [(0, 1), (1, 1)] := by kernel_rfl
theorem fo122_0 : foff Tryz.prog 122 0 = some 0 := by kernel_rfl
theorem fo122_1 : foff Tryz.prog 122 1 = some 1 := by kernel_rfl
theorem sp123 : splaces Tryz.prog 123 = some [(0, 1), (1, 1)] := by kernel_rfl
theorem fo123_0 : foff Tryz.prog 123 0 = some 0 := by kernel_rfl
theorem fo123_1 : foff Tryz.prog 123 1 = some 1 := by kernel_rfl
theorem sp150 : splaces Tryz.prog 150 = some [(0, 1), (1, 1)] := by kernel_rfl
theorem fo150_0 : foff Tryz.prog 150 0 = some 0 := by kernel_rfl
theorem fo150_1 : foff Tryz.prog 150 1 = some 1 := by kernel_rfl
theorem sp157 : splaces Tryz.prog 157 = some [(0, 1), (1, 1), (2, 1), (3, 1), (4, 1), (5, 1), (6, 1), (7, 1)] := by kernel_rfl
theorem fo157_0 : foff Tryz.prog 157 0 = some 0 := by kernel_rfl
theorem fo157_1 : foff Tryz.prog 157 1 = some 1 := by kernel_rfl
theorem fo157_2 : foff Tryz.prog 157 2 = some 2 := by kernel_rfl
theorem fo157_3 : foff Tryz.prog 157 3 = some 3 := by kernel_rfl
theorem fo157_4 : foff Tryz.prog 157 4 = some 4 := by kernel_rfl
theorem fo157_5 : foff Tryz.prog 157 5 = some 5 := by kernel_rfl
theorem fo157_6 : foff Tryz.prog 157 6 = some 6 := by kernel_rfl
theorem fo157_7 : foff Tryz.prog 157 7 = some 7 := by kernel_rfl
theorem sp158 : splaces Tryz.prog 158 = some [(0, 1), (1, 1), (2, 1), (3, 1), (4, 1), (5, 1), (6, 1), (7, 1)] := by kernel_rfl
theorem fo158_0 : foff Tryz.prog 158 0 = some 0 := by kernel_rfl
theorem fo158_1 : foff Tryz.prog 158 1 = some 1 := by kernel_rfl
theorem fo158_2 : foff Tryz.prog 158 2 = some 2 := by kernel_rfl
theorem fo158_3 : foff Tryz.prog 158 3 = some 3 := by kernel_rfl
theorem fo158_4 : foff Tryz.prog 158 4 = some 4 := by kernel_rfl
theorem fo158_5 : foff Tryz.prog 158 5 = some 5 := by kernel_rfl
theorem fo158_6 : foff Tryz.prog 158 6 = some 6 := by kernel_rfl
theorem fo158_7 : foff Tryz.prog 158 7 = some 7 := by kernel_rfl
theorem sp169 : splaces Tryz.prog 169 = some [(0, 1), (1, 1)] := by kernel_rfl
theorem fo169_0 : foff Tryz.prog 169 0 = some 0 := by kernel_rfl
theorem fo169_1 : foff Tryz.prog 169 1 = some 1 := by kernel_rfl
theorem sp170 : splaces Tryz.prog 170 = some [(0, 1), (1, 1)] := by kernel_rfl
theorem fo170_0 : foff Tryz.prog 170 0 = some 0 := by kernel_rfl
theorem fo170_1 : foff Tryz.prog 170 1 = some 1 := by kernel_rfl
theorem ui176 : Tryz.prog.underlying 176 = some (.int .i64) := by kernel_rfl
theorem ui187 : Tryz.prog.underlying 187 = some (.int .u64) := by kernel_rfl
theorem ui188 : Tryz.prog.underlying 188 = some (.int .u64) := by kernel_rfl
theorem ui206 : Tryz.prog.underlying 206 = some (.int .u32) := by kernel_rfl
theorem sp211 : splaces Tryz.prog 211 = some [(0, 1)] := by kernel_rfl
theorem fo211_0 : foff Tryz.prog 211 0 = some 0 := by kernel_rfl
theorem sp212 : splaces Tryz.prog 212 = some [(0, 1)] := by kernel_rfl
theorem fo212_0 : foff Tryz.prog 212 0 = some 0 := by kernel_rfl
theorem sp218 : splaces Tryz.prog 218 = some [(0, 1), (1, 1)] := by kernel_rfl
theorem fo218_0 : foff Tryz.prog 218 0 = some 0 := by kernel_rfl
theorem fo218_1 : foff Tryz.prog 218 1 = some 1 := by kernel_rfl
theorem sp219 : splaces Tryz.prog 219 = some [(0, 1), (1, 1)] := by kernel_rfl
theorem fo219_0 : foff Tryz.prog 219 0 = some 0 := by kernel_rfl
theorem fo219_1 : foff Tryz.prog 219 1 = some 1 := by kernel_rfl
theorem sp224 : splaces Tryz.prog 224 = some [(0, 1), (1, 1), (2, 1), (3, 1)] := by kernel_rfl
theorem fo224_0 : foff Tryz.prog 224 0 = some 0 := by kernel_rfl
theorem fo224_1 : foff Tryz.prog 224 1 = some 1 := by kernel_rfl
theorem fo224_2 : foff Tryz.prog 224 2 = some 2 := by kernel_rfl
theorem fo224_3 : foff Tryz.prog 224 3 = some 3 := by kernel_rfl
theorem sp225 : splaces Tryz.prog 225 = some [(0, 1), (1, 1), (2, 1), (3, 1)] := by kernel_rfl
theorem fo225_0 : foff Tryz.prog 225 0 = some 0 := by kernel_rfl
theorem fo225_1 : foff Tryz.prog 225 1 = some 1 := by kernel_rfl
theorem fo225_2 : foff Tryz.prog 225 2 = some 2 := by kernel_rfl
theorem fo225_3 : foff Tryz.prog 225 3 = some 3 := by kernel_rfl
theorem sp227 : splaces Tryz.prog 227 = some [(0, 0)] := by kernel_rfl
theorem sp228 : splaces Tryz.prog 228 = some [(0, 0)] := by kernel_rfl
theorem ui230 : Tryz.prog.underlying 230 = some (.int .u8) := by kernel_rfl
theorem ui231 : Tryz.prog.underlying 231 = some (.int .u8) := by kernel_rfl
theorem ui233 : Tryz.prog.underlying 233 = some (.int .i32) := by kernel_rfl
theorem ui234 : Tryz.prog.underlying 234 = some (.int .i32) := by kernel_rfl
theorem mixed : Tryz.prog.follows .mixedOrders = true := by kernel_rfl
end Go.Proofs.YtknciobaifdafaaGreatDoor.EF
