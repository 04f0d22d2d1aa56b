/- Facts on the types of the seat's program, each by the kernel. -/
import Derived.Test.YthmmlmjmkanocaaGreatDoorQB
import Derived.Test.YthmmlmjmkanocaaGreatDoorProg
import Derived.KernelRfl
namespace Go.Proofs.YthmmlmjmkanocaaGreatDoor.EF
open Go Go.Pv
theorem uf20 : isIfaceB Tryz.prog 20 = true := by kernel_rfl
theorem uf100 : isIfaceB Tryz.prog 100 = true := by kernel_rfl
theorem uf101 : isIfaceB Tryz.prog 101 = true := by kernel_rfl
theorem ti2 : tinfo Tryz.prog 2 = some ⟨false, 1, 8, some [.int .i64 0]⟩ := by kernel_rfl
theorem ti3 : tinfo Tryz.prog 3 = some ⟨false, 1, 8, some [.int .i64 0]⟩ := by kernel_rfl
theorem ti4 : tinfo Tryz.prog 4 = some ⟨false, 1, 1, some [.bool false]⟩ := by kernel_rfl
theorem ti5 : tinfo Tryz.prog 5 = some ⟨false, 1, 1, some [.int .u8 0]⟩ := by kernel_rfl
theorem ti6 : tinfo Tryz.prog 6 = some ⟨false, 1, 1, some [.int .u8 0]⟩ := by kernel_rfl
theorem ti7 : tinfo Tryz.prog 7 = some ⟨true, 4, 24, some [.int .i64 0, .int .i64 0, .bool false, .int .u8 0]⟩ := by kernel_rfl
theorem ti8 : tinfo Tryz.prog 8 = some ⟨true, 4, 24, some [.int .i64 0, .int .i64 0, .bool false, .int .u8 0]⟩ := by kernel_rfl
theorem ti9 : tinfo Tryz.prog 9 = some ⟨false, 1, 16, some [.string ByteArray.empty]⟩ := by kernel_rfl
theorem ti10 : tinfo Tryz.prog 10 = some ⟨false, 1, 16, some [.string ByteArray.empty]⟩ := by kernel_rfl
theorem ti11 : tinfo Tryz.prog 11 = some ⟨false, 1, 16, some [.string ByteArray.empty]⟩ := by kernel_rfl
theorem ti12 : tinfo Tryz.prog 12 = some ⟨false, 1, 8, some [.int .u64 0]⟩ := by kernel_rfl
theorem ti13 : tinfo Tryz.prog 13 = some ⟨true, 2, 24, some [.string ByteArray.empty, .int .u64 0]⟩ := by kernel_rfl
theorem ti14 : tinfo Tryz.prog 14 = some ⟨true, 2, 24, some [.string ByteArray.empty, .int .u64 0]⟩ := by kernel_rfl
theorem ti15 : tinfo Tryz.prog 15 = some ⟨false, 1, 8, some [.pointer none]⟩ := by kernel_rfl
theorem ti16 : tinfo Tryz.prog 16 = some ⟨false, 1, 8, some [.pointer none]⟩ := by kernel_rfl
theorem ti17 : tinfo Tryz.prog 17 = some ⟨false, 1, 8, some [.pointer none]⟩ := by kernel_rfl
theorem ti18 : tinfo Tryz.prog 18 = some ⟨true, 1, 8, some [.pointer none]⟩ := by kernel_rfl
theorem ti19 : tinfo Tryz.prog 19 = some ⟨true, 1, 8, some [.pointer none]⟩ := by kernel_rfl
theorem ti21 : tinfo Tryz.prog 21 = some ⟨false, 1, 4, some [.int .i32 0]⟩ := by kernel_rfl
theorem ti22 : tinfo Tryz.prog 22 = some ⟨false, 1, 24, some [.slice none 0 0]⟩ := by kernel_rfl
theorem ti23 : tinfo Tryz.prog 23 = some ⟨false, 1, 24, some [.slice none 0 0]⟩ := by kernel_rfl
theorem ti24 : tinfo Tryz.prog 24 = some ⟨true, 4, 64, some [.slice none 0 0, .slice none 0 0, .int .i64 0, .int .i64 0]⟩ := by kernel_rfl
theorem ti25 : tinfo Tryz.prog 25 = some ⟨true, 4, 64, some [.slice none 0 0, .slice none 0 0, .int .i64 0, .int .i64 0]⟩ := by kernel_rfl
theorem ti26 : tinfo Tryz.prog 26 = some ⟨true, 8, 112, some [.slice none 0 0, .slice none 0 0, .int .i64 0, .int .i64 0, .int .i64 0, .int .i64 0, .int .i64 0, .slice none 0 0]⟩ := by kernel_rfl
theorem ti27 : tinfo Tryz.prog 27 = some ⟨true, 8, 112, some [.slice none 0 0, .slice none 0 0, .int .i64 0, .int .i64 0, .int .i64 0, .int .i64 0, .int .i64 0, .slice none 0 0]⟩ := by kernel_rfl
theorem ti30 : tinfo Tryz.prog 30 = some ⟨false, 1, 24, some [.slice none 0 0]⟩ := by kernel_rfl
theorem ti31 : tinfo Tryz.prog 31 = some ⟨true, 4, 64, some [.slice none 0 0, .slice none 0 0, .int .i64 0, .int .i64 0]⟩ := by kernel_rfl
theorem ti32 : tinfo Tryz.prog 32 = some ⟨true, 4, 64, some [.slice none 0 0, .slice none 0 0, .int .i64 0, .int .i64 0]⟩ := by kernel_rfl
theorem ti33 : tinfo Tryz.prog 33 = some ⟨true, 8, 112, some [.slice none 0 0, .slice none 0 0, .int .i64 0, .int .i64 0, .int .i64 0, .int .i64 0, .int .i64 0, .slice none 0 0]⟩ := by kernel_rfl
theorem ti34 : tinfo Tryz.prog 34 = some ⟨true, 8, 112, some [.slice none 0 0, .slice none 0 0, .int .i64 0, .int .i64 0, .int .i64 0, .int .i64 0, .int .i64 0, .slice none 0 0]⟩ := by kernel_rfl
theorem ti67 : tinfo Tryz.prog 67 = some ⟨false, 1, 24, some [.slice none 0 0]⟩ := by kernel_rfl
theorem ti68 : tinfo Tryz.prog 68 = some ⟨true, 6, 56, some [.int .i64 0, .int .i64 0, .int .i64 0, .int .i64 0, .bool false, .string ByteArray.empty]⟩ := by kernel_rfl
theorem ti69 : tinfo Tryz.prog 69 = some ⟨true, 6, 56, some [.int .i64 0, .int .i64 0, .int .i64 0, .int .i64 0, .bool false, .string ByteArray.empty]⟩ := by kernel_rfl
theorem ti79 : tinfo Tryz.prog 79 = some ⟨true, 2, 24, some [.int .i64 0, .string ByteArray.empty]⟩ := by kernel_rfl
theorem ti80 : tinfo Tryz.prog 80 = some ⟨true, 2, 24, some [.int .i64 0, .string ByteArray.empty]⟩ := by kernel_rfl
theorem ti86 : tinfo Tryz.prog 86 = some ⟨false, 1, 24, some [.slice none 0 0]⟩ := by kernel_rfl
theorem ti90 : tinfo Tryz.prog 90 = some ⟨false, 1, 8, some [.pointer none]⟩ := by kernel_rfl
theorem ti93 : tinfo Tryz.prog 93 = some ⟨true, 2, 24, some [.int .i64 0, .string ByteArray.empty]⟩ := by kernel_rfl
theorem ti111 : tinfo Tryz.prog 111 = some ⟨false, 1, 24, some [.slice none 0 0]⟩ := by kernel_rfl
theorem ti113 : tinfo Tryz.prog 113 = some ⟨true, 2, 24, some [.int .i64 0, .string ByteArray.empty]⟩ := by kernel_rfl
theorem ti124 : tinfo Tryz.prog 124 = some ⟨false, 1, 8, some [.int .i64 0]⟩ := by kernel_rfl
theorem ti127 : tinfo Tryz.prog 127 = some ⟨false, 1, 8, some [.pointer none]⟩ := by kernel_rfl
theorem ti131 : tinfo Tryz.prog 131 = some ⟨false, 1, 8, some [.pointer none]⟩ := by kernel_rfl
theorem ti132 : tinfo Tryz.prog 132 = some ⟨true, 2, 32, some [.pointer none, .slice none 0 0]⟩ := by kernel_rfl
theorem ti133 : tinfo Tryz.prog 133 = some ⟨true, 2, 32, some [.pointer none, .slice none 0 0]⟩ := by kernel_rfl
theorem ti136 : tinfo Tryz.prog 136 = some ⟨true, 24, 24, some [.int .u8 0, .int .u8 0, .int .u8 0, .int .u8 0, .int .u8 0, .int .u8 0, .int .u8 0, .int .u8 0, .int .u8 0, .int .u8 0, .int .u8 0, .int .u8 0, .int .u8 0, .int .u8 0, .int .u8 0, .int .u8 0, .int .u8 0, .int .u8 0, .int .u8 0, .int .u8 0, .int .u8 0, .int .u8 0, .int .u8 0, .int .u8 0]⟩ := by kernel_rfl
theorem ti137 : tinfo Tryz.prog 137 = some ⟨false, 1, 8, some [.int .u64 0]⟩ := by kernel_rfl
theorem ti143 : tinfo Tryz.prog 143 = some ⟨false, 1, 8, some [.int .u64 0]⟩ := by kernel_rfl
theorem ti147 : tinfo Tryz.prog 147 = some ⟨true, 3, 48, some [.string ByteArray.empty, .string ByteArray.empty, .nilIface]⟩ := by kernel_rfl
theorem ti148 : tinfo Tryz.prog 148 = some ⟨true, 3, 48, some [.string ByteArray.empty, .string ByteArray.empty, .nilIface]⟩ := by kernel_rfl
theorem ti152 : tinfo Tryz.prog 152 = some ⟨false, 1, 8, some [.pointer none]⟩ := by kernel_rfl
theorem ti154 : tinfo Tryz.prog 154 = some ⟨true, 20, 160, some [.int .u64 0, .int .u64 0, .int .u64 0, .int .u64 0, .int .u64 0, .int .u64 0, .int .u64 0, .int .u64 0, .int .u64 0, .int .u64 0, .int .u64 0, .int .u64 0, .int .u64 0, .int .u64 0, .int .u64 0, .int .u64 0, .int .u64 0, .int .u64 0, .int .u64 0, .int .u64 0]⟩ := by kernel_rfl
theorem ti155 : tinfo Tryz.prog 155 = some ⟨false, 1, 4, some [.int .u32 0]⟩ := by kernel_rfl
theorem ti161 : tinfo Tryz.prog 161 = some ⟨false, 1, 8, some [.pointer none]⟩ := by kernel_rfl
theorem ti162 : tinfo Tryz.prog 162 = some ⟨true, 1, 16, some [.string ByteArray.empty]⟩ := by kernel_rfl
theorem ti163 : tinfo Tryz.prog 163 = some ⟨true, 1, 16, some [.string ByteArray.empty]⟩ := by kernel_rfl
theorem ti164 : tinfo Tryz.prog 164 = some ⟨false, 1, 8, some [.pointer none]⟩ := by kernel_rfl
theorem ti169 : tinfo Tryz.prog 169 = some ⟨true, 2, 2, some [.int .u8 0, .int .u8 0]⟩ := by kernel_rfl
theorem ti170 : tinfo Tryz.prog 170 = some ⟨true, 2, 2, some [.int .u8 0, .int .u8 0]⟩ := by kernel_rfl
theorem ti171 : tinfo Tryz.prog 171 = some ⟨true, 32, 32, some [.int .u8 0, .int .u8 0, .int .u8 0, .int .u8 0, .int .u8 0, .int .u8 0, .int .u8 0, .int .u8 0, .int .u8 0, .int .u8 0, .int .u8 0, .int .u8 0, .int .u8 0, .int .u8 0, .int .u8 0, .int .u8 0, .int .u8 0, .int .u8 0, .int .u8 0, .int .u8 0, .int .u8 0, .int .u8 0, .int .u8 0, .int .u8 0, .int .u8 0, .int .u8 0, .int .u8 0, .int .u8 0, .int .u8 0, .int .u8 0, .int .u8 0, .int .u8 0]⟩ := by kernel_rfl
theorem ti172 : tinfo Tryz.prog 172 = some ⟨true, 32, 32, some [.int .u8 0, .int .u8 0, .int .u8 0, .int .u8 0, .int .u8 0, .int .u8 0, .int .u8 0, .int .u8 0, .int .u8 0, .int .u8 0, .int .u8 0, .int .u8 0, .int .u8 0, .int .u8 0, .int .u8 0, .int .u8 0, .int .u8 0, .int .u8 0, .int .u8 0, .int .u8 0, .int .u8 0, .int .u8 0, .int .u8 0, .int .u8 0, .int .u8 0, .int .u8 0, .int .u8 0, .int .u8 0, .int .u8 0, .int .u8 0, .int .u8 0, .int .u8 0]⟩ := by kernel_rfl
theorem ti173 : tinfo Tryz.prog 173 = some ⟨true, 64, 64, some [.int .u8 0, .int .u8 0, .int .u8 0, .int .u8 0, .int .u8 0, .int .u8 0, .int .u8 0, .int .u8 0, .int .u8 0, .int .u8 0, .int .u8 0, .int .u8 0, .int .u8 0, .int .u8 0, .int .u8 0, .int .u8 0, .int .u8 0, .int .u8 0, .int .u8 0, .int .u8 0, .int .u8 0, .int .u8 0, .int .u8 0, .int .u8 0, .int .u8 0, .int .u8 0, .int .u8 0, .int .u8 0, .int .u8 0, .int .u8 0, .int .u8 0, .int .u8 0, .int .u8 0, .int .u8 0, .int .u8 0, .int .u8 0, .int .u8 0, .int .u8 0, .int .u8 0, .int .u8 0, .int .u8 0, .int .u8 0, .int .u8 0, .int .u8 0, .int .u8 0, .int .u8 0, .int .u8 0, .int .u8 0, .int .u8 0, .int .u8 0, .int .u8 0, .int .u8 0, .int .u8 0, .int .u8 0, .int .u8 0, .int .u8 0, .int .u8 0, .int .u8 0, .int .u8 0, .int .u8 0, .int .u8 0, .int .u8 0, .int .u8 0, .int .u8 0]⟩ := by kernel_rfl
theorem ti174 : tinfo Tryz.prog 174 = some ⟨true, 4, 40, some [.pointer none, .pointer none, .pointer none, .string ByteArray.empty]⟩ := by kernel_rfl
theorem ti175 : tinfo Tryz.prog 175 = some ⟨true, 4, 40, some [.pointer none, .pointer none, .pointer none, .string ByteArray.empty]⟩ := by kernel_rfl
theorem ti176 : tinfo Tryz.prog 176 = some ⟨true, 0, 0, some []⟩ := by kernel_rfl
theorem ti177 : tinfo Tryz.prog 177 = some ⟨true, 0, 0, some []⟩ := by kernel_rfl
theorem ti178 : tinfo Tryz.prog 178 = some ⟨true, 0, 0, some []⟩ := by kernel_rfl
theorem ti180 : tinfo Tryz.prog 180 = some ⟨false, 1, 1, some [.int .u8 0]⟩ := by kernel_rfl
theorem ti181 : tinfo Tryz.prog 181 = some ⟨false, 1, 1, some [.int .u8 0]⟩ := by kernel_rfl
theorem ti183 : tinfo Tryz.prog 183 = some ⟨false, 1, 4, some [.int .i32 0]⟩ := by kernel_rfl
theorem ti184 : tinfo Tryz.prog 184 = some ⟨false, 1, 4, some [.int .i32 0]⟩ := by kernel_rfl
theorem ti185 : tinfo Tryz.prog 185 = some ⟨true, 11, 48, some [.int .u64 0, .int .u64 0, .int .u32 0, .int .u8 0, .int .u8 0, .int .u8 0, .int .u8 0, .nilFunc, .pointer none, .int .i32 0, .int .i32 0]⟩ := by kernel_rfl
theorem ti186 : tinfo Tryz.prog 186 = some ⟨true, 11, 48, some [.int .u64 0, .int .u64 0, .int .u32 0, .int .u8 0, .int .u8 0, .int .u8 0, .int .u8 0, .nilFunc, .pointer none, .int .i32 0, .int .i32 0]⟩ := by kernel_rfl
theorem ui2 : Tryz.prog.underlying 2 = some (.int .i64) := by kernel_rfl
theorem ui3 : Tryz.prog.underlying 3 = some (.int .i64) := by kernel_rfl
theorem ub4 : Tryz.prog.underlying 4 = some .bool := by kernel_rfl
theorem ui5 : Tryz.prog.underlying 5 = some (.int .u8) := by kernel_rfl
theorem ui6 : Tryz.prog.underlying 6 = some (.int .u8) := by kernel_rfl
theorem sp7 : splaces Tryz.prog 7 = some [(0, 1), (1, 1), (2, 1), (3, 1)] := by kernel_rfl
theorem fo7_0 : foff Tryz.prog 7 0 = some 0 := by kernel_rfl
theorem fo7_1 : foff Tryz.prog 7 1 = some 1 := by kernel_rfl
theorem fo7_2 : foff Tryz.prog 7 2 = some 2 := by kernel_rfl
theorem fo7_3 : foff Tryz.prog 7 3 = some 3 := by kernel_rfl
theorem sp8 : splaces Tryz.prog 8 = some [(0, 1), (1, 1), (2, 1), (3, 1)] := by kernel_rfl
theorem fo8_0 : foff Tryz.prog 8 0 = some 0 := by kernel_rfl
theorem fo8_1 : foff Tryz.prog 8 1 = some 1 := by kernel_rfl
theorem fo8_2 : foff Tryz.prog 8 2 = some 2 := by kernel_rfl
theorem fo8_3 : foff Tryz.prog 8 3 = some 3 := by kernel_rfl
theorem us9 : Tryz.prog.underlying 9 = some .string := by kernel_rfl
theorem us10 : Tryz.prog.underlying 10 = some .string := by kernel_rfl
theorem us11 : Tryz.prog.underlying 11 = some .string := by kernel_rfl
theorem ui12 : Tryz.prog.underlying 12 = some (.int .u64) := by kernel_rfl
theorem sp13 : splaces Tryz.prog 13 = some [(0, 1), (1, 1)] := by kernel_rfl
theorem fo13_0 : foff Tryz.prog 13 0 = some 0 := by kernel_rfl
theorem fo13_1 : foff Tryz.prog 13 1 = some 1 := by kernel_rfl
theorem sp14 : splaces Tryz.prog 14 = some [(0, 1), (1, 1)] := by kernel_rfl
theorem fo14_0 : foff Tryz.prog 14 0 = some 0 := by kernel_rfl
theorem fo14_1 : foff Tryz.prog 14 1 = some 1 := by kernel_rfl
theorem sp18 : splaces Tryz.prog 18 = some [(0, 1)] := by kernel_rfl
theorem fo18_0 : foff Tryz.prog 18 0 = some 0 := by kernel_rfl
theorem sp19 : splaces Tryz.prog 19 = some [(0, 1)] := by kernel_rfl
theorem fo19_0 : foff Tryz.prog 19 0 = some 0 := by kernel_rfl
theorem ui21 : Tryz.prog.underlying 21 = some (.int .i32) := by kernel_rfl
theorem se22 : selem Tryz.prog 22 = some (9, ⟨false, 1, 16, some [.string ByteArray.empty]⟩) := by kernel_rfl
theorem se23 : selem Tryz.prog 23 = some (93, ⟨true, 2, 24, some [.int .i64 0, .string ByteArray.empty]⟩) := by kernel_rfl
theorem sp24 : splaces Tryz.prog 24 = some [(0, 1), (1, 1), (2, 1), (3, 1)] := by kernel_rfl
theorem fo24_0 : foff Tryz.prog 24 0 = some 0 := by kernel_rfl
theorem fo24_1 : foff Tryz.prog 24 1 = some 1 := by kernel_rfl
theorem fo24_2 : foff Tryz.prog 24 2 = some 2 := by kernel_rfl
theorem fo24_3 : foff Tryz.prog 24 3 = some 3 := by kernel_rfl
theorem sp25 : splaces Tryz.prog 25 = some [(0, 1), (1, 1), (2, 1), (3, 1)] := by kernel_rfl
theorem fo25_0 : foff Tryz.prog 25 0 = some 0 := by kernel_rfl
theorem fo25_1 : foff Tryz.prog 25 1 = some 1 := by kernel_rfl
theorem fo25_2 : foff Tryz.prog 25 2 = some 2 := by kernel_rfl
theorem fo25_3 : foff Tryz.prog 25 3 = some 3 := by kernel_rfl
theorem sp26 : splaces Tryz.prog 26 = some [(0, 4), (4, 1), (5, 1), (6, 1), (7, 1)] := by kernel_rfl
theorem fo26_0 : foff Tryz.prog 26 0 = some 0 := by kernel_rfl
theorem fo26_1 : foff Tryz.prog 26 1 = some 4 := by kernel_rfl
theorem fo26_2 : foff Tryz.prog 26 2 = some 5 := by kernel_rfl
theorem fo26_3 : foff Tryz.prog 26 3 = some 6 := by kernel_rfl
theorem fo26_4 : foff Tryz.prog 26 4 = some 7 := by kernel_rfl
theorem sp27 : splaces Tryz.prog 27 = some [(0, 4), (4, 1), (5, 1), (6, 1), (7, 1)] := by kernel_rfl
theorem fo27_0 : foff Tryz.prog 27 0 = some 0 := by kernel_rfl
theorem fo27_1 : foff Tryz.prog 27 1 = some 4 := by kernel_rfl
theorem fo27_2 : foff Tryz.prog 27 2 = some 5 := by kernel_rfl
theorem fo27_3 : foff Tryz.prog 27 3 = some 6 := by kernel_rfl
theorem fo27_4 : foff Tryz.prog 27 4 = some 7 := by kernel_rfl
theorem se30 : selem Tryz.prog 30 = some (80, ⟨true, 2, 24, some [.int .i64 0, .string ByteArray.empty]⟩) := by kernel_rfl
theorem sp31 : splaces Tryz.prog 31 = some [(0, 1), (1, 1), (2, 1), (3, 1)] := by kernel_rfl
theorem fo31_0 : foff Tryz.prog 31 0 = some 0 := by kernel_rfl
theorem fo31_1 : foff Tryz.prog 31 1 = some 1 := by kernel_rfl
theorem fo31_2 : foff Tryz.prog 31 2 = some 2 := by kernel_rfl
theorem fo31_3 : foff Tryz.prog 31 3 = some 3 := by kernel_rfl
theorem sp32 : splaces Tryz.prog 32 = some [(0, 1), (1, 1), (2, 1), (3, 1)] := by kernel_rfl
theorem fo32_0 : foff Tryz.prog 32 0 = some 0 := by kernel_rfl
theorem fo32_1 : foff Tryz.prog 32 1 = some 1 := by kernel_rfl
theorem fo32_2 : foff Tryz.prog 32 2 = some 2 := by kernel_rfl
theorem fo32_3 : foff Tryz.prog 32 3 = some 3 := by kernel_rfl
theorem sp33 : splaces Tryz.prog 33 = some [(0, 4), (4, 1), (5, 1), (6, 1), (7, 1)] := by kernel_rfl
theorem fo33_0 : foff Tryz.prog 33 0 = some 0 := by kernel_rfl
theorem fo33_1 : foff Tryz.prog 33 1 = some 4 := by kernel_rfl
theorem fo33_2 : foff Tryz.prog 33 2 = some 5 := by kernel_rfl
theorem fo33_3 : foff Tryz.prog 33 3 = some 6 := by kernel_rfl
theorem fo33_4 : foff Tryz.prog 33 4 = some 7 := by kernel_rfl
theorem sp34 : splaces Tryz.prog 34 = some [(0, 4), (4, 1), (5, 1), (6, 1), (7, 1)] := by kernel_rfl
theorem fo34_0 : foff Tryz.prog 34 0 = some 0 := by kernel_rfl
theorem fo34_1 : foff Tryz.prog 34 1 = some 4 := by kernel_rfl
theorem fo34_2 : foff Tryz.prog 34 2 = some 5 := by kernel_rfl
theorem fo34_3 : foff Tryz.prog 34 3 = some 6 := by kernel_rfl
theorem fo34_4 : foff Tryz.prog 34 4 = some 7 := by kernel_rfl
theorem se67 : selem Tryz.prog 67 = some (69, ⟨true, 6, 56, some [.int .i64 0, .int .i64 0, .int .i64 0, .int .i64 0, .bool false, .string ByteArray.empty]⟩) := by kernel_rfl
theorem sp68 : splaces Tryz.prog 68 = some [(0, 1), (1, 1), (2, 1), (3, 1), (4, 1), (5, 1)] := by kernel_rfl
theorem fo68_0 : foff Tryz.prog 68 0 = some 0 := by kernel_rfl
theorem fo68_1 : foff Tryz.prog 68 1 = some 1 := by kernel_rfl
theorem fo68_2 : foff Tryz.prog 68 2 = some 2 := by kernel_rfl
theorem fo68_3 : foff Tryz.prog 68 3 = some 3 := by kernel_rfl
theorem fo68_4 : foff Tryz.prog 68 4 = some 4 := by kernel_rfl
theorem fo68_5 : foff Tryz.prog 68 5 = some 5 := by kernel_rfl
theorem sp69 : splaces Tryz.prog 69 = some [(0, 1), (1, 1), (2, 1), (3, 1), (4, 1), (5, 1)] := by kernel_rfl
theorem fo69_0 : foff Tryz.prog 69 0 = some 0 := by kernel_rfl
theorem fo69_1 : foff Tryz.prog 69 1 = some 1 := by kernel_rfl
theorem fo69_2 : foff Tryz.prog 69 2 = some 2 := by kernel_rfl
theorem fo69_3 : foff Tryz.prog 69 3 = some 3 := by kernel_rfl
theorem fo69_4 : foff Tryz.prog 69 4 = some 4 := by kernel_rfl
theorem fo69_5 : foff Tryz.prog 69 5 = some 5 := by kernel_rfl
theorem sp79 : splaces Tryz.prog 79 = some [(0, 1), (1, 1)] := by kernel_rfl
theorem fo79_0 : foff Tryz.prog 79 0 = some 0 := by kernel_rfl
theorem fo79_1 : foff Tryz.prog 79 1 = some 1 := by kernel_rfl
theorem sp80 : splaces Tryz.prog 80 = some [(0, 1), (1, 1)] := by kernel_rfl
theorem fo80_0 : foff Tryz.prog 80 0 = some 0 := by kernel_rfl
theorem fo80_1 : foff Tryz.prog 80 1 = some 1 := by kernel_rfl
theorem se86 : selem Tryz.prog 86 = some (113, ⟨true, 2, 24, some [.int .i64 0, .string ByteArray.empty]⟩) := by kernel_rfl
theorem sp93 : splaces Tryz.prog 93 = some [(0, 1), (1, 1)] := by kernel_rfl
theorem fo93_0 : foff Tryz.prog 93 0 = some 0 := by kernel_rfl
theorem fo93_1 : foff Tryz.prog 93 1 = some 1 := by kernel_rfl
theorem se111 : selem Tryz.prog 111 = some (5, ⟨false, 1, 1, some [.int .u8 0]⟩) := by kernel_rfl
theorem by111 : isBytes Tryz.prog 111 = some 5 := by kernel_rfl
theorem sp113 : splaces Tryz.prog 113 = some [(0, 1), (1, 1)] := by kernel_rfl
theorem fo113_0 : foff Tryz.prog 113 0 = some 0 := by kernel_rfl
theorem fo113_1 : foff Tryz.prog 113 1 = some 1 := by kernel_rfl
theorem ui124 : Tryz.prog.underlying 124 = some (.int .i64) := by kernel_rfl
theorem sp132 : splaces Tryz.prog 132 = some [(0, 1), (1, 1)] := by kernel_rfl
theorem fo132_0 : foff Tryz.prog 132 0 = some 0 := by kernel_rfl
theorem fo132_1 : foff Tryz.prog 132 1 = some 1 := by kernel_rfl
theorem sp133 : splaces Tryz.prog 133 = some [(0, 1), (1, 1)] := by kernel_rfl
theorem fo133_0 : foff Tryz.prog 133 0 = some 0 := by kernel_rfl
theorem fo133_1 : foff Tryz.prog 133 1 = some 1 := by kernel_rfl
theorem ui137 : Tryz.prog.underlying 137 = some (.int .u64) := by kernel_rfl
theorem ui143 : Tryz.prog.underlying 143 = some (.int .u64) := by kernel_rfl
theorem ui155 : Tryz.prog.underlying 155 = some (.int .u32) := by kernel_rfl
theorem sp162 : splaces Tryz.prog 162 = some [(0, 1)] := by kernel_rfl
theorem fo162_0 : foff Tryz.prog 162 0 = some 0 := by kernel_rfl
theorem sp163 : splaces Tryz.prog 163 = some [(0, 1)] := by kernel_rfl
theorem fo163_0 : foff Tryz.prog 163 0 = some 0 := by kernel_rfl
theorem sp169 : splaces Tryz.prog 169 = some [(0, 1), (1, 1)] := by kernel_rfl
theorem fo169_0 : foff Tryz.prog 169 0 = some 0 := by kernel_rfl
theorem fo169_1 : foff Tryz.prog 169 1 = some 1 := by kernel_rfl
theorem sp170 : splaces Tryz.prog 170 = some [(0, 1), (1, 1)] := by kernel_rfl
theorem fo170_0 : foff Tryz.prog 170 0 = some 0 := by kernel_rfl
theorem fo170_1 : foff Tryz.prog 170 1 = some 1 := by kernel_rfl
theorem sp174 : splaces Tryz.prog 174 = some [(0, 1), (1, 1), (2, 1), (3, 1)] := by kernel_rfl
theorem fo174_0 : foff Tryz.prog 174 0 = some 0 := by kernel_rfl
theorem fo174_1 : foff Tryz.prog 174 1 = some 1 := by kernel_rfl
theorem fo174_2 : foff Tryz.prog 174 2 = some 2 := by kernel_rfl
theorem fo174_3 : foff Tryz.prog 174 3 = some 3 := by kernel_rfl
theorem sp175 : splaces Tryz.prog 175 = some [(0, 1), (1, 1), (2, 1), (3, 1)] := by kernel_rfl
theorem fo175_0 : foff Tryz.prog 175 0 = some 0 := by kernel_rfl
theorem fo175_1 : foff Tryz.prog 175 1 = some 1 := by kernel_rfl
theorem fo175_2 : foff Tryz.prog 175 2 = some 2 := by kernel_rfl
theorem fo175_3 : foff Tryz.prog 175 3 = some 3 := by kernel_rfl
theorem sp177 : splaces Tryz.prog 177 = some [(0, 0)] := by kernel_rfl
theorem sp178 : splaces Tryz.prog 178 = some [(0, 0)] := by kernel_rfl
theorem ui180 : Tryz.prog.underlying 180 = some (.int .u8) := by kernel_rfl
theorem ui181 : Tryz.prog.underlying 181 = some (.int .u8) := by kernel_rfl
theorem ui183 : Tryz.prog.underlying 183 = some (.int .i32) := by kernel_rfl
theorem ui184 : Tryz.prog.underlying 184 = some (.int .i32) := by kernel_rfl
theorem mixed : Tryz.prog.follows .mixedOrders = true := by kernel_rfl
end Go.Proofs.YthmmlmjmkanocaaGreatDoor.EF
