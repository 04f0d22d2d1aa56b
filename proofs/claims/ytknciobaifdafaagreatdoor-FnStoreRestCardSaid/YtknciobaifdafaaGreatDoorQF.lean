/- Facts on the types of the seat's program, each by the kernel. -/
import Derived.Test.YtknciobaifdafaaGreatDoorQB
import Derived.Test.YtknciobaifdafaaGreatDoorProg
import Derived.KernelRfl
namespace Go.Proofs.YtknciobaifdafaaGreatDoor.EF
open Go Go.Pv
theorem QE : mf Tryz.prog 133 = true := by kernel_rfl
theorem ti3 : dZ Tryz.prog 3 = some ⟨false, 1, 8, some [.int .i64 0]⟩ := by kernel_rfl
theorem ti4 : dZ Tryz.prog 4 = some ⟨false, 1, 1, some [.bool false]⟩ := by kernel_rfl
theorem ti5 : dZ Tryz.prog 5 = some ⟨false, 1, 1, some [.int .u8 0]⟩ := by kernel_rfl
theorem ti9 : dZ Tryz.prog 9 = some ⟨false, 1, 16, some [.string ByteArray.empty]⟩ := by kernel_rfl
theorem ti22 : dZ Tryz.prog 22 = some ⟨false, 1, 24, some [.slice none 0 0]⟩ := by kernel_rfl
theorem ti31 : dZ Tryz.prog 31 = some ⟨false, 1, 24, some [.slice none 0 0]⟩ := by kernel_rfl
theorem ti33 : dZ Tryz.prog 33 = some ⟨true, 4, 64, some [.slice none 0 0, .slice none 0 0, .int .i64 0, .int .i64 0]⟩ := by kernel_rfl
theorem ti35 : dZ Tryz.prog 35 = some ⟨true, 8, 112, some [.slice none 0 0, .slice none 0 0, .int .i64 0, .int .i64 0, .int .i64 0, .int .i64 0, .int .i64 0, .slice none 0 0]⟩ := by kernel_rfl
theorem ti39 : dZ Tryz.prog 39 = some ⟨false, 1, 24, some [.slice none 0 0]⟩ := by kernel_rfl
theorem ti46 : dZ Tryz.prog 46 = some ⟨false, 1, 24, some [.slice none 0 0]⟩ := by kernel_rfl
theorem ti77 : dZ Tryz.prog 77 = some ⟨true, 2, 24, some [.int .i64 0, .string ByteArray.empty]⟩ := by kernel_rfl
theorem ti97 : dZ Tryz.prog 97 = some ⟨true, 6, 56, some [.int .i64 0, .int .i64 0, .int .i64 0, .int .i64 0, .bool false, .string ByteArray.empty]⟩ := by kernel_rfl
theorem QF : dZ Tryz.prog 110 = some ⟨true, 2, 24, some [.int .i64 0, .string ByteArray.empty]⟩ := by kernel_rfl
theorem QG : dZ Tryz.prog 123 = some ⟨true, 2, 32, some [.slice none 0 0, .int .i64 0]⟩ := by kernel_rfl
theorem QH : dZ Tryz.prog 158 = some ⟨true, 8, 80, some [.int .i64 0, .slice none 0 0, .int .i64 0, .int .i64 0, .int .i64 0, .int .i64 0, .int .i64 0, .bool false]⟩ := by kernel_rfl
theorem ui3 : Tryz.prog.underlying 3 = some (.int .i64) := by kernel_rfl
theorem ub4 : Tryz.prog.underlying 4 = some .bool := by kernel_rfl
theorem ui5 : Tryz.prog.underlying 5 = some (.int .u8) := by kernel_rfl
theorem us9 : Tryz.prog.underlying 9 = some .string := by kernel_rfl
theorem se22 : gY Tryz.prog 22 = some (9, ⟨false, 1, 16, some [.string ByteArray.empty]⟩) := by kernel_rfl
theorem se31 : gY Tryz.prog 31 = some (110, ⟨true, 2, 24, some [.int .i64 0, .string ByteArray.empty]⟩) := by kernel_rfl
theorem sp33 : lN Tryz.prog 33 = some [(0, 1), (1, 1), (2, 1), (3, 1)] := by kernel_rfl
theorem zg : foff Tryz.prog 33 0 = some 0 := by kernel_rfl
theorem PM : foff Tryz.prog 33 1 = some 1 := by kernel_rfl
theorem PN : foff Tryz.prog 33 2 = some 2 := by kernel_rfl
theorem PO : foff Tryz.prog 33 3 = some 3 := by kernel_rfl
theorem sp35 : lN Tryz.prog 35 = some [(0, 4), (4, 1), (5, 1), (6, 1), (7, 1)] := by kernel_rfl
theorem Hw : foff Tryz.prog 35 0 = some 0 := by kernel_rfl
theorem DK : foff Tryz.prog 35 1 = some 4 := by kernel_rfl
theorem PP : foff Tryz.prog 35 2 = some 5 := by kernel_rfl
theorem PQ : foff Tryz.prog 35 3 = some 6 := by kernel_rfl
theorem DL : foff Tryz.prog 35 4 = some 7 := by kernel_rfl
theorem se39 : gY Tryz.prog 39 = some (77, ⟨true, 2, 24, some [.int .i64 0, .string ByteArray.empty]⟩) := by kernel_rfl
theorem se46 : gY Tryz.prog 46 = some (5, ⟨false, 1, 1, some [.int .u8 0]⟩) := by kernel_rfl
theorem by46 : isBytes Tryz.prog 46 = some 5 := by kernel_rfl
theorem sp77 : lN Tryz.prog 77 = some [(0, 1), (1, 1)] := by kernel_rfl
theorem PR : foff Tryz.prog 77 0 = some 0 := by kernel_rfl
theorem PS : foff Tryz.prog 77 1 = some 1 := by kernel_rfl
theorem se90 : gY Tryz.prog 90 = some (3, ⟨false, 1, 8, some [.int .i64 0]⟩) := by kernel_rfl
theorem se95 : gY Tryz.prog 95 = some (97, ⟨true, 6, 56, some [.int .i64 0, .int .i64 0, .int .i64 0, .int .i64 0, .bool false, .string ByteArray.empty]⟩) := by kernel_rfl
theorem sp97 : lN Tryz.prog 97 = some [(0, 1), (1, 1), (2, 1), (3, 1), (4, 1), (5, 1)] := by kernel_rfl
theorem PT : foff Tryz.prog 97 0 = some 0 := by kernel_rfl
theorem PU : foff Tryz.prog 97 1 = some 1 := by kernel_rfl
theorem PW : foff Tryz.prog 97 2 = some 2 := by kernel_rfl
theorem PX : foff Tryz.prog 97 3 = some 3 := by kernel_rfl
theorem PY : foff Tryz.prog 97 4 = some 4 := by kernel_rfl
theorem PZ : foff Tryz.prog 97 5 = some 5 := by kernel_rfl
theorem QI : lN Tryz.prog 110 = some [(0, 1), (1, 1)] := by kernel_rfl
theorem Oc : foff Tryz.prog 110 0 = some 0 := by kernel_rfl
theorem Oe : foff Tryz.prog 110 1 = some 1 := by kernel_rfl
theorem QJ : lN Tryz.prog 123 = some [(0, 1), (1, 1)] := by kernel_rfl
theorem Og : foff Tryz.prog 123 0 = some 0 := by kernel_rfl
theorem Oh : foff Tryz.prog 123 1 = some 1 := by kernel_rfl
theorem QK : lN Tryz.prog 158 = some [(0, 1), (1, 1), (2, 1), (3, 1), (4, 1), (5, 1), (6, 1), (7, 1)] := by kernel_rfl
theorem Oi : foff Tryz.prog 158 0 = some 0 := by kernel_rfl
theorem Oj : foff Tryz.prog 158 1 = some 1 := by kernel_rfl
theorem Ol : foff Tryz.prog 158 2 = some 2 := by kernel_rfl
theorem Om : foff Tryz.prog 158 3 = some 3 := by kernel_rfl
theorem Oo : foff Tryz.prog 158 4 = some 4 := by kernel_rfl
theorem Oq : foff Tryz.prog 158 5 = some 5 := by kernel_rfl
theorem Ot : foff Tryz.prog 158 6 = some 6 := by kernel_rfl
theorem Ou : foff Tryz.prog 158 7 = some 7 := by kernel_rfl
theorem mixed : Tryz.prog.follows .mixedOrders = true := by kernel_rfl
end Go.Proofs.YtknciobaifdafaaGreatDoor.EF
