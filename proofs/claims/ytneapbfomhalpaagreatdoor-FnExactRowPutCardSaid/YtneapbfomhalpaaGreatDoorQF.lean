/- Facts on the types of the seat's program, each by the kernel. -/
import Derived.Test.YtneapbfomhalpaaGreatDoorQB
import Derived.Test.YtneapbfomhalpaaGreatDoorProg
import Derived.KernelRfl
namespace Go.Proofs.YtneapbfomhalpaaGreatDoor.EF
open Go Go.Pv
theorem uf20 : isIfaceB Tryz.prog 20 = true := by kernel_rfl
theorem uf71 : isIfaceB Tryz.prog 71 = true := by kernel_rfl
theorem uf72 : isIfaceB Tryz.prog 72 = true := by kernel_rfl
theorem ti2 : tinfo Tryz.prog 2 = some ⟨false, 1, 8, some [.int .i64 0]⟩ := by kernel_rfl
theorem ti3 : tinfo Tryz.prog 3 = some ⟨false, 1, 8, some [.int .i64 0]⟩ := by kernel_rfl
theorem ti4 : tinfo Tryz.prog 4 = some ⟨false, 1, 1, some [.bool false]⟩ := by kernel_rfl
theorem ti5 : tinfo Tryz.prog 5 = some ⟨false, 1, 1, some [.int .u8 0]⟩ := by kernel_rfl
theorem ti6 : tinfo Tryz.prog 6 = some ⟨false, 1, 1, some [.int .u8 0]⟩ := by kernel_rfl
theorem ti7 : tinfo Tryz.prog 7 = some ⟨true, 4, 24, some [.int .i64 0, .int .i64 0, .bool false, .int .u8 0]⟩ := by kernel_rfl
theorem ti8 : tinfo Tryz.prog 8 = some ⟨true, 4, 24, some [.int .i64 0, .int .i64 0, .bool false, .int .u8 0]⟩ := by kernel_rfl
theorem ti9 : tinfo Tryz.prog 9 = some ⟨false, 1, 16, some [.string ByteArray.empty]⟩ := by kernel_rfl
theorem ti10 : tinfo Tryz.prog 10 = some ⟨false, 1, 16, some [.string ByteArray.empty]⟩ := by kernel_rfl
theorem ti11 : tinfo Tryz.prog 11 = some ⟨false, 1, 16, some [.string ByteArray.empty]⟩ := by kernel_rfl
theorem ti12 : tinfo Tryz.prog 12 = some ⟨false, 1, 8, some [.int .u64 0]⟩ := by kernel_rfl
theorem ti13 : tinfo Tryz.prog 13 = some ⟨true, 2, 24, some [.string ByteArray.empty, .int .u64 0]⟩ := by kernel_rfl
theorem ti14 : tinfo Tryz.prog 14 = some ⟨true, 2, 24, some [.string ByteArray.empty, .int .u64 0]⟩ := by kernel_rfl
theorem ti15 : tinfo Tryz.prog 15 = some ⟨false, 1, 8, some [.pointer none]⟩ := by kernel_rfl
theorem ti16 : tinfo Tryz.prog 16 = some ⟨false, 1, 8, some [.pointer none]⟩ := by kernel_rfl
theorem ti17 : tinfo Tryz.prog 17 = some ⟨false, 1, 8, some [.pointer none]⟩ := by kernel_rfl
theorem ti18 : tinfo Tryz.prog 18 = some ⟨true, 1, 8, some [.pointer none]⟩ := by kernel_rfl
theorem ti19 : tinfo Tryz.prog 19 = some ⟨true, 1, 8, some [.pointer none]⟩ := by kernel_rfl
theorem ti21 : tinfo Tryz.prog 21 = some ⟨false, 1, 4, some [.int .i32 0]⟩ := by kernel_rfl
theorem ti22 : tinfo Tryz.prog 22 = some ⟨false, 1, 24, some [.slice none 0 0]⟩ := by kernel_rfl
theorem ti23 : tinfo Tryz.prog 23 = some ⟨true, 2, 32, some [.bool false, .slice none 0 0]⟩ := by kernel_rfl
theorem ti24 : tinfo Tryz.prog 24 = some ⟨true, 2, 32, some [.bool false, .slice none 0 0]⟩ := by kernel_rfl
theorem ti25 : tinfo Tryz.prog 25 = some ⟨true, 3, 40, some [.bool false, .slice none 0 0, .int .i64 0]⟩ := by kernel_rfl
theorem ti26 : tinfo Tryz.prog 26 = some ⟨true, 3, 40, some [.bool false, .slice none 0 0, .int .i64 0]⟩ := by kernel_rfl
theorem ti27 : tinfo Tryz.prog 27 = some ⟨true, 2, 16, some [.int .i64 0, .int .i64 0]⟩ := by kernel_rfl
theorem ti28 : tinfo Tryz.prog 28 = some ⟨true, 2, 16, some [.int .i64 0, .int .i64 0]⟩ := by kernel_rfl
theorem ti29 : tinfo Tryz.prog 29 = some ⟨true, 9, 96, some [.int .i64 0, .bool false, .bool false, .slice none 0 0, .int .i64 0, .int .i64 0, .int .i64 0, .int .i64 0, .string ByteArray.empty]⟩ := by kernel_rfl
theorem ti30 : tinfo Tryz.prog 30 = some ⟨true, 9, 96, some [.int .i64 0, .bool false, .bool false, .slice none 0 0, .int .i64 0, .int .i64 0, .int .i64 0, .int .i64 0, .string ByteArray.empty]⟩ := by kernel_rfl
theorem ti33 : tinfo Tryz.prog 33 = some ⟨true, 2, 32, some [.bool false, .slice none 0 0]⟩ := by kernel_rfl
theorem ti34 : tinfo Tryz.prog 34 = some ⟨true, 3, 40, some [.bool false, .slice none 0 0, .int .i64 0]⟩ := by kernel_rfl
theorem ti35 : tinfo Tryz.prog 35 = some ⟨true, 3, 40, some [.bool false, .slice none 0 0, .int .i64 0]⟩ := by kernel_rfl
theorem ti36 : tinfo Tryz.prog 36 = some ⟨true, 2, 16, some [.int .i64 0, .int .i64 0]⟩ := by kernel_rfl
theorem ti37 : tinfo Tryz.prog 37 = some ⟨true, 9, 96, some [.int .i64 0, .bool false, .bool false, .slice none 0 0, .int .i64 0, .int .i64 0, .int .i64 0, .int .i64 0, .string ByteArray.empty]⟩ := by kernel_rfl
theorem ti38 : tinfo Tryz.prog 38 = some ⟨true, 9, 96, some [.int .i64 0, .bool false, .bool false, .slice none 0 0, .int .i64 0, .int .i64 0, .int .i64 0, .int .i64 0, .string ByteArray.empty]⟩ := by kernel_rfl
theorem ti42 : tinfo Tryz.prog 42 = some ⟨false, 1, 24, some [.slice none 0 0]⟩ := by kernel_rfl
theorem ti43 : tinfo Tryz.prog 43 = some ⟨false, 1, 24, some [.slice none 0 0]⟩ := by kernel_rfl
theorem ti47 : tinfo Tryz.prog 47 = some ⟨false, 1, 24, some [.slice none 0 0]⟩ := by kernel_rfl
theorem ti49 : tinfo Tryz.prog 49 = some ⟨false, 1, 24, some [.slice none 0 0]⟩ := by kernel_rfl
theorem ti63 : tinfo Tryz.prog 63 = some ⟨true, 3, 24, some [.int .i64 0, .int .i64 0, .int .i64 0]⟩ := by kernel_rfl
theorem ti64 : tinfo Tryz.prog 64 = some ⟨true, 3, 24, some [.int .i64 0, .int .i64 0, .int .i64 0]⟩ := by kernel_rfl
theorem ti66 : tinfo Tryz.prog 66 = some ⟨true, 3, 24, some [.int .i64 0, .int .i64 0, .int .i64 0]⟩ := by kernel_rfl
theorem ti67 : tinfo Tryz.prog 67 = some ⟨false, 1, 8, some [.pointer none]⟩ := by kernel_rfl
theorem ti68 : tinfo Tryz.prog 68 = some ⟨false, 1, 24, some [.slice none 0 0]⟩ := by kernel_rfl
theorem ti69 : tinfo Tryz.prog 69 = some ⟨true, 2, 32, some [.pointer none, .slice none 0 0]⟩ := by kernel_rfl
theorem ti70 : tinfo Tryz.prog 70 = some ⟨true, 2, 32, some [.pointer none, .slice none 0 0]⟩ := by kernel_rfl
theorem ti93 : tinfo Tryz.prog 93 = some ⟨false, 1, 8, some [.pointer none]⟩ := by kernel_rfl
theorem ti102 : tinfo Tryz.prog 102 = some ⟨false, 1, 24, some [.slice none 0 0]⟩ := by kernel_rfl
theorem ti109 : tinfo Tryz.prog 109 = some ⟨false, 1, 8, some [.pointer none]⟩ := by kernel_rfl
theorem ti126 : tinfo Tryz.prog 126 = some ⟨false, 1, 8, some [.int .u64 0]⟩ := by kernel_rfl
theorem ti133 : tinfo Tryz.prog 133 = some ⟨false, 1, 4, some [.int .u32 0]⟩ := by kernel_rfl
theorem ti136 : tinfo Tryz.prog 136 = some ⟨false, 1, 8, some [.int .u64 0]⟩ := by kernel_rfl
theorem ti142 : tinfo Tryz.prog 142 = some ⟨true, 2, 2, some [.int .u8 0, .int .u8 0]⟩ := by kernel_rfl
theorem ti143 : tinfo Tryz.prog 143 = some ⟨true, 2, 2, some [.int .u8 0, .int .u8 0]⟩ := by kernel_rfl
theorem ti144 : tinfo Tryz.prog 144 = some ⟨true, 32, 32, some [.int .u8 0, .int .u8 0, .int .u8 0, .int .u8 0, .int .u8 0, .int .u8 0, .int .u8 0, .int .u8 0, .int .u8 0, .int .u8 0, .int .u8 0, .int .u8 0, .int .u8 0, .int .u8 0, .int .u8 0, .int .u8 0, .int .u8 0, .int .u8 0, .int .u8 0, .int .u8 0, .int .u8 0, .int .u8 0, .int .u8 0, .int .u8 0, .int .u8 0, .int .u8 0, .int .u8 0, .int .u8 0, .int .u8 0, .int .u8 0, .int .u8 0, .int .u8 0]⟩ := by kernel_rfl
theorem ti145 : tinfo Tryz.prog 145 = some ⟨true, 24, 24, some [.int .u8 0, .int .u8 0, .int .u8 0, .int .u8 0, .int .u8 0, .int .u8 0, .int .u8 0, .int .u8 0, .int .u8 0, .int .u8 0, .int .u8 0, .int .u8 0, .int .u8 0, .int .u8 0, .int .u8 0, .int .u8 0, .int .u8 0, .int .u8 0, .int .u8 0, .int .u8 0, .int .u8 0, .int .u8 0, .int .u8 0, .int .u8 0]⟩ := by kernel_rfl
theorem ti152 : tinfo Tryz.prog 152 = some ⟨true, 20, 160, some [.int .u64 0, .int .u64 0, .int .u64 0, .int .u64 0, .int .u64 0, .int .u64 0, .int .u64 0, .int .u64 0, .int .u64 0, .int .u64 0, .int .u64 0, .int .u64 0, .int .u64 0, .int .u64 0, .int .u64 0, .int .u64 0, .int .u64 0, .int .u64 0, .int .u64 0, .int .u64 0]⟩ := by kernel_rfl
theorem ti156 : tinfo Tryz.prog 156 = some ⟨true, 32, 32, some [.int .u8 0, .int .u8 0, .int .u8 0, .int .u8 0, .int .u8 0, .int .u8 0, .int .u8 0, .int .u8 0, .int .u8 0, .int .u8 0, .int .u8 0, .int .u8 0, .int .u8 0, .int .u8 0, .int .u8 0, .int .u8 0, .int .u8 0, .int .u8 0, .int .u8 0, .int .u8 0, .int .u8 0, .int .u8 0, .int .u8 0, .int .u8 0, .int .u8 0, .int .u8 0, .int .u8 0, .int .u8 0, .int .u8 0, .int .u8 0, .int .u8 0, .int .u8 0]⟩ := by kernel_rfl
theorem ti157 : tinfo Tryz.prog 157 = some ⟨true, 64, 64, some [.int .u8 0, .int .u8 0, .int .u8 0, .int .u8 0, .int .u8 0, .int .u8 0, .int .u8 0, .int .u8 0, .int .u8 0, .int .u8 0, .int .u8 0, .int .u8 0, .int .u8 0, .int .u8 0, .int .u8 0, .int .u8 0, .int .u8 0, .int .u8 0, .int .u8 0, .int .u8 0, .int .u8 0, .int .u8 0, .int .u8 0, .int .u8 0, .int .u8 0, .int .u8 0, .int .u8 0, .int .u8 0, .int .u8 0, .int .u8 0, .int .u8 0, .int .u8 0, .int .u8 0, .int .u8 0, .int .u8 0, .int .u8 0, .int .u8 0, .int .u8 0, .int .u8 0, .int .u8 0, .int .u8 0, .int .u8 0, .int .u8 0, .int .u8 0, .int .u8 0, .int .u8 0, .int .u8 0, .int .u8 0, .int .u8 0, .int .u8 0, .int .u8 0, .int .u8 0, .int .u8 0, .int .u8 0, .int .u8 0, .int .u8 0, .int .u8 0, .int .u8 0, .int .u8 0, .int .u8 0, .int .u8 0, .int .u8 0, .int .u8 0, .int .u8 0]⟩ := by kernel_rfl
theorem ti158 : tinfo Tryz.prog 158 = some ⟨true, 4, 40, some [.pointer none, .pointer none, .pointer none, .string ByteArray.empty]⟩ := by kernel_rfl
theorem ti159 : tinfo Tryz.prog 159 = some ⟨true, 4, 40, some [.pointer none, .pointer none, .pointer none, .string ByteArray.empty]⟩ := by kernel_rfl
theorem ti160 : tinfo Tryz.prog 160 = some ⟨true, 0, 0, some []⟩ := by kernel_rfl
theorem ti161 : tinfo Tryz.prog 161 = some ⟨true, 0, 0, some []⟩ := by kernel_rfl
theorem ti162 : tinfo Tryz.prog 162 = some ⟨true, 0, 0, some []⟩ := by kernel_rfl
theorem ti163 : tinfo Tryz.prog 163 = some ⟨false, 1, 1, some [.int .u8 0]⟩ := by kernel_rfl
theorem ti164 : tinfo Tryz.prog 164 = some ⟨false, 1, 1, some [.int .u8 0]⟩ := by kernel_rfl
theorem ti166 : tinfo Tryz.prog 166 = some ⟨false, 1, 4, some [.int .i32 0]⟩ := by kernel_rfl
theorem ti167 : tinfo Tryz.prog 167 = some ⟨false, 1, 4, some [.int .i32 0]⟩ := by kernel_rfl
theorem ti168 : tinfo Tryz.prog 168 = some ⟨true, 11, 48, some [.int .u64 0, .int .u64 0, .int .u32 0, .int .u8 0, .int .u8 0, .int .u8 0, .int .u8 0, .nilFunc, .pointer none, .int .i32 0, .int .i32 0]⟩ := by kernel_rfl
theorem ti169 : tinfo Tryz.prog 169 = some ⟨true, 11, 48, some [.int .u64 0, .int .u64 0, .int .u32 0, .int .u8 0, .int .u8 0, .int .u8 0, .int .u8 0, .nilFunc, .pointer none, .int .i32 0, .int .i32 0]⟩ := by kernel_rfl
theorem ti171 : tinfo Tryz.prog 171 = some ⟨true, 2, 32, some [.bool false, .slice none 0 0]⟩ := by kernel_rfl
theorem ti172 : tinfo Tryz.prog 172 = some ⟨true, 2, 32, some [.bool false, .slice none 0 0]⟩ := by kernel_rfl
theorem ui2 : Tryz.prog.underlying 2 = some (.int .i64) := by kernel_rfl
theorem ui3 : Tryz.prog.underlying 3 = some (.int .i64) := by kernel_rfl
theorem ub4 : Tryz.prog.underlying 4 = some .bool := by kernel_rfl
theorem ui5 : Tryz.prog.underlying 5 = some (.int .u8) := by kernel_rfl
theorem ui6 : Tryz.prog.underlying 6 = some (.int .u8) := by kernel_rfl
theorem sp7 : splaces Tryz.prog 7 = some [(0, 1), (1, 1), (2, 1), (3, 1)] := by kernel_rfl
theorem fo7_0 : foff Tryz.prog 7 0 = some 0 := by kernel_rfl
theorem fo7_1 : foff Tryz.prog 7 1 = some 1 := by kernel_rfl
theorem fo7_2 : foff Tryz.prog 7 2 = some 2 := by kernel_rfl
theorem fo7_3 : foff Tryz.prog 7 3 = some 3 := by kernel_rfl
theorem sp8 : splaces Tryz.prog 8 = some [(0, 1), (1, 1), (2, 1), (3, 1)] := by kernel_rfl
theorem fo8_0 : foff Tryz.prog 8 0 = some 0 := by kernel_rfl
theorem fo8_1 : foff Tryz.prog 8 1 = some 1 := by kernel_rfl
theorem fo8_2 : foff Tryz.prog 8 2 = some 2 := by kernel_rfl
theorem fo8_3 : foff Tryz.prog 8 3 = some 3 := by kernel_rfl
theorem us9 : Tryz.prog.underlying 9 = some .string := by kernel_rfl
theorem us10 : Tryz.prog.underlying 10 = some .string := by kernel_rfl
theorem us11 : Tryz.prog.underlying 11 = some .string := by kernel_rfl
theorem ui12 : Tryz.prog.underlying 12 = some (.int .u64) := by kernel_rfl
theorem sp13 : splaces Tryz.prog 13 = some [(0, 1), (1, 1)] := by kernel_rfl
theorem fo13_0 : foff Tryz.prog 13 0 = some 0 := by kernel_rfl
theorem fo13_1 : foff Tryz.prog 13 1 = some 1 := by kernel_rfl
theorem sp14 : splaces Tryz.prog 14 = some [(0, 1), (1, 1)] := by kernel_rfl
theorem fo14_0 : foff Tryz.prog 14 0 = some 0 := by kernel_rfl
theorem fo14_1 : foff Tryz.prog 14 1 = some 1 := by kernel_rfl
theorem sp18 : splaces Tryz.prog 18 = some [(0, 1)] := by kernel_rfl
theorem fo18_0 : foff Tryz.prog 18 0 = some 0 := by kernel_rfl
theorem sp19 : splaces Tryz.prog 19 = some [(0, 1)] := by kernel_rfl
theorem fo19_0 : foff Tryz.prog 19 0 = some 0 := by kernel_rfl
theorem ui21 : Tryz.prog.underlying 21 = some (.int .i32) := by kernel_rfl
theorem se22 : selem Tryz.prog 22 = some (3, ⟨false, 1, 8, some [.int .i64 0]⟩) := by kernel_rfl
theorem sp23 : splaces Tryz.prog 23 = some [(0, 1), (1, 1)] := by kernel_rfl
theorem fo23_0 : foff Tryz.prog 23 0 = some 0 := by kernel_rfl
theorem fo23_1 : foff Tryz.prog 23 1 = some 1 := by kernel_rfl
theorem sp24 : splaces Tryz.prog 24 = some [(0, 1), (1, 1)] := by kernel_rfl
theorem fo24_0 : foff Tryz.prog 24 0 = some 0 := by kernel_rfl
theorem fo24_1 : foff Tryz.prog 24 1 = some 1 := by kernel_rfl
theorem sp25 : splaces Tryz.prog 25 = some [(0, 2), (2, 1)] := by kernel_rfl
theorem fo25_0 : foff Tryz.prog 25 0 = some 0 := by kernel_rfl
theorem fo25_1 : foff Tryz.prog 25 1 = some 2 := by kernel_rfl
theorem sp26 : splaces Tryz.prog 26 = some [(0, 2), (2, 1)] := by kernel_rfl
theorem fo26_0 : foff Tryz.prog 26 0 = some 0 := by kernel_rfl
theorem fo26_1 : foff Tryz.prog 26 1 = some 2 := by kernel_rfl
theorem uq27 : eq2 Tryz.prog 27 = true := by kernel_rfl
theorem sp27 : splaces Tryz.prog 27 = some [(0, 1), (1, 1)] := by kernel_rfl
theorem fo27_0 : foff Tryz.prog 27 0 = some 0 := by kernel_rfl
theorem fo27_1 : foff Tryz.prog 27 1 = some 1 := by kernel_rfl
theorem uq28 : eq2 Tryz.prog 28 = true := by kernel_rfl
theorem sp28 : splaces Tryz.prog 28 = some [(0, 1), (1, 1)] := by kernel_rfl
theorem fo28_0 : foff Tryz.prog 28 0 = some 0 := by kernel_rfl
theorem fo28_1 : foff Tryz.prog 28 1 = some 1 := by kernel_rfl
theorem sp29 : splaces Tryz.prog 29 = some [(0, 1), (1, 1), (2, 3), (5, 1), (6, 2), (8, 1)] := by kernel_rfl
theorem fo29_0 : foff Tryz.prog 29 0 = some 0 := by kernel_rfl
theorem fo29_1 : foff Tryz.prog 29 1 = some 1 := by kernel_rfl
theorem fo29_2 : foff Tryz.prog 29 2 = some 2 := by kernel_rfl
theorem fo29_3 : foff Tryz.prog 29 3 = some 5 := by kernel_rfl
theorem fo29_4 : foff Tryz.prog 29 4 = some 6 := by kernel_rfl
theorem fo29_5 : foff Tryz.prog 29 5 = some 8 := by kernel_rfl
theorem sp30 : splaces Tryz.prog 30 = some [(0, 1), (1, 1), (2, 3), (5, 1), (6, 2), (8, 1)] := by kernel_rfl
theorem fo30_0 : foff Tryz.prog 30 0 = some 0 := by kernel_rfl
theorem fo30_1 : foff Tryz.prog 30 1 = some 1 := by kernel_rfl
theorem fo30_2 : foff Tryz.prog 30 2 = some 2 := by kernel_rfl
theorem fo30_3 : foff Tryz.prog 30 3 = some 5 := by kernel_rfl
theorem fo30_4 : foff Tryz.prog 30 4 = some 6 := by kernel_rfl
theorem fo30_5 : foff Tryz.prog 30 5 = some 8 := by kernel_rfl
theorem sp33 : splaces Tryz.prog 33 = some [(0, 1), (1, 1)] := by kernel_rfl
theorem fo33_0 : foff Tryz.prog 33 0 = some 0 := by kernel_rfl
theorem fo33_1 : foff Tryz.prog 33 1 = some 1 := by kernel_rfl
theorem sp34 : splaces Tryz.prog 34 = some [(0, 2), (2, 1)] := by kernel_rfl
theorem fo34_0 : foff Tryz.prog 34 0 = some 0 := by kernel_rfl
theorem fo34_1 : foff Tryz.prog 34 1 = some 2 := by kernel_rfl
theorem sp35 : splaces Tryz.prog 35 = some [(0, 2), (2, 1)] := by kernel_rfl
theorem fo35_0 : foff Tryz.prog 35 0 = some 0 := by kernel_rfl
theorem fo35_1 : foff Tryz.prog 35 1 = some 2 := by kernel_rfl
theorem uq36 : eq2 Tryz.prog 36 = true := by kernel_rfl
theorem sp36 : splaces Tryz.prog 36 = some [(0, 1), (1, 1)] := by kernel_rfl
theorem fo36_0 : foff Tryz.prog 36 0 = some 0 := by kernel_rfl
theorem fo36_1 : foff Tryz.prog 36 1 = some 1 := by kernel_rfl
theorem sp37 : splaces Tryz.prog 37 = some [(0, 1), (1, 1), (2, 3), (5, 1), (6, 2), (8, 1)] := by kernel_rfl
theorem fo37_0 : foff Tryz.prog 37 0 = some 0 := by kernel_rfl
theorem fo37_1 : foff Tryz.prog 37 1 = some 1 := by kernel_rfl
theorem fo37_2 : foff Tryz.prog 37 2 = some 2 := by kernel_rfl
theorem fo37_3 : foff Tryz.prog 37 3 = some 5 := by kernel_rfl
theorem fo37_4 : foff Tryz.prog 37 4 = some 6 := by kernel_rfl
theorem fo37_5 : foff Tryz.prog 37 5 = some 8 := by kernel_rfl
theorem sp38 : splaces Tryz.prog 38 = some [(0, 1), (1, 1), (2, 3), (5, 1), (6, 2), (8, 1)] := by kernel_rfl
theorem fo38_0 : foff Tryz.prog 38 0 = some 0 := by kernel_rfl
theorem fo38_1 : foff Tryz.prog 38 1 = some 1 := by kernel_rfl
theorem fo38_2 : foff Tryz.prog 38 2 = some 2 := by kernel_rfl
theorem fo38_3 : foff Tryz.prog 38 3 = some 5 := by kernel_rfl
theorem fo38_4 : foff Tryz.prog 38 4 = some 6 := by kernel_rfl
theorem fo38_5 : foff Tryz.prog 38 5 = some 8 := by kernel_rfl
theorem se42 : selem Tryz.prog 42 = some (66, ⟨true, 3, 24, some [.int .i64 0, .int .i64 0, .int .i64 0]⟩) := by kernel_rfl
theorem se43 : selem Tryz.prog 43 = some (30, ⟨true, 9, 96, some [.int .i64 0, .bool false, .bool false, .slice none 0 0, .int .i64 0, .int .i64 0, .int .i64 0, .int .i64 0, .string ByteArray.empty]⟩) := by kernel_rfl
theorem se47 : selem Tryz.prog 47 = some (64, ⟨true, 3, 24, some [.int .i64 0, .int .i64 0, .int .i64 0]⟩) := by kernel_rfl
theorem se49 : selem Tryz.prog 49 = some (38, ⟨true, 9, 96, some [.int .i64 0, .bool false, .bool false, .slice none 0 0, .int .i64 0, .int .i64 0, .int .i64 0, .int .i64 0, .string ByteArray.empty]⟩) := by kernel_rfl
theorem sp63 : splaces Tryz.prog 63 = some [(0, 1), (1, 1), (2, 1)] := by kernel_rfl
theorem fo63_0 : foff Tryz.prog 63 0 = some 0 := by kernel_rfl
theorem fo63_1 : foff Tryz.prog 63 1 = some 1 := by kernel_rfl
theorem fo63_2 : foff Tryz.prog 63 2 = some 2 := by kernel_rfl
theorem sp64 : splaces Tryz.prog 64 = some [(0, 1), (1, 1), (2, 1)] := by kernel_rfl
theorem fo64_0 : foff Tryz.prog 64 0 = some 0 := by kernel_rfl
theorem fo64_1 : foff Tryz.prog 64 1 = some 1 := by kernel_rfl
theorem fo64_2 : foff Tryz.prog 64 2 = some 2 := by kernel_rfl
theorem sp66 : splaces Tryz.prog 66 = some [(0, 1), (1, 1), (2, 1)] := by kernel_rfl
theorem fo66_0 : foff Tryz.prog 66 0 = some 0 := by kernel_rfl
theorem fo66_1 : foff Tryz.prog 66 1 = some 1 := by kernel_rfl
theorem fo66_2 : foff Tryz.prog 66 2 = some 2 := by kernel_rfl
theorem se68 : selem Tryz.prog 68 = some (5, ⟨false, 1, 1, some [.int .u8 0]⟩) := by kernel_rfl
theorem by68 : isBytes Tryz.prog 68 = some 5 := by kernel_rfl
theorem sp69 : splaces Tryz.prog 69 = some [(0, 1), (1, 1)] := by kernel_rfl
theorem fo69_0 : foff Tryz.prog 69 0 = some 0 := by kernel_rfl
theorem fo69_1 : foff Tryz.prog 69 1 = some 1 := by kernel_rfl
theorem sp70 : splaces Tryz.prog 70 = some [(0, 1), (1, 1)] := by kernel_rfl
theorem fo70_0 : foff Tryz.prog 70 0 = some 0 := by kernel_rfl
theorem fo70_1 : foff Tryz.prog 70 1 = some 1 := by kernel_rfl
theorem se102 : selem Tryz.prog 102 = some (3, ⟨false, 1, 8, some [.int .i64 0]⟩) := by kernel_rfl
theorem ui126 : Tryz.prog.underlying 126 = some (.int .u64) := by kernel_rfl
theorem ui133 : Tryz.prog.underlying 133 = some (.int .u32) := by kernel_rfl
theorem ui136 : Tryz.prog.underlying 136 = some (.int .u64) := by kernel_rfl
theorem sp142 : splaces Tryz.prog 142 = some [(0, 1), (1, 1)] := by kernel_rfl
theorem fo142_0 : foff Tryz.prog 142 0 = some 0 := by kernel_rfl
theorem fo142_1 : foff Tryz.prog 142 1 = some 1 := by kernel_rfl
theorem sp143 : splaces Tryz.prog 143 = some [(0, 1), (1, 1)] := by kernel_rfl
theorem fo143_0 : foff Tryz.prog 143 0 = some 0 := by kernel_rfl
theorem fo143_1 : foff Tryz.prog 143 1 = some 1 := by kernel_rfl
theorem sp158 : splaces Tryz.prog 158 = some [(0, 1), (1, 1), (2, 1), (3, 1)] := by kernel_rfl
theorem fo158_0 : foff Tryz.prog 158 0 = some 0 := by kernel_rfl
theorem fo158_1 : foff Tryz.prog 158 1 = some 1 := by kernel_rfl
theorem fo158_2 : foff Tryz.prog 158 2 = some 2 := by kernel_rfl
theorem fo158_3 : foff Tryz.prog 158 3 = some 3 := by kernel_rfl
theorem sp159 : splaces Tryz.prog 159 = some [(0, 1), (1, 1), (2, 1), (3, 1)] := by kernel_rfl
theorem fo159_0 : foff Tryz.prog 159 0 = some 0 := by kernel_rfl
theorem fo159_1 : foff Tryz.prog 159 1 = some 1 := by kernel_rfl
theorem fo159_2 : foff Tryz.prog 159 2 = some 2 := by kernel_rfl
theorem fo159_3 : foff Tryz.prog 159 3 = some 3 := by kernel_rfl
theorem sp161 : splaces Tryz.prog 161 = some [(0, 0)] := by kernel_rfl
theorem sp162 : splaces Tryz.prog 162 = some [(0, 0)] := by kernel_rfl
theorem ui163 : Tryz.prog.underlying 163 = some (.int .u8) := by kernel_rfl
theorem ui164 : Tryz.prog.underlying 164 = some (.int .u8) := by kernel_rfl
theorem ui166 : Tryz.prog.underlying 166 = some (.int .i32) := by kernel_rfl
theorem ui167 : Tryz.prog.underlying 167 = some (.int .i32) := by kernel_rfl
theorem sp171 : splaces Tryz.prog 171 = some [(0, 1), (1, 1)] := by kernel_rfl
theorem fo171_0 : foff Tryz.prog 171 0 = some 0 := by kernel_rfl
theorem fo171_1 : foff Tryz.prog 171 1 = some 1 := by kernel_rfl
theorem sp172 : splaces Tryz.prog 172 = some [(0, 1), (1, 1)] := by kernel_rfl
theorem fo172_0 : foff Tryz.prog 172 0 = some 0 := by kernel_rfl
theorem fo172_1 : foff Tryz.prog 172 1 = some 1 := by kernel_rfl
theorem mixed : Tryz.prog.follows .mixedOrders = true := by kernel_rfl
end Go.Proofs.YtneapbfomhalpaaGreatDoor.EF
