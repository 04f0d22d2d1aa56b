/- Walks of values, part 20: the library's functions that the program calls. -/
import Derived.Test.YtneapbfomhalpaaGreatDoorQVS
import Derived.Test.YtneapbfomhalpaaGreatDoorQVF
import Derived.Test.YtneapbfomhalpaaGreatDoorQK
set_option linter.unusedVariables false
set_option maxRecDepth 100000
set_option linter.unusedSimpArgs false
namespace Go.Proofs.YtneapbfomhalpaaGreatDoor.T
open Go Go.RowKit Go.Sort Go.Pv Go.Proofs.YtneapbfomhalpaaGreatDoor.EF
theorem named_maxLen : Tryz.prog.globalNamed "internal/bytealg.MaxLen" = some 0 := by kernel_rfl
theorem named_pow : Tryz.prog.globalNamed "internal/strconv.uint64pow10" = some 3 := by kernel_rfl
theorem below_drew (w : World) (n : Nat) : Below w.heap.size w (w.drewN n) := ⟨rfl, rfl, rfl, Nat.le_refl _, fun k _ => rfl⟩
theorem below_grow (w : World) (os : Array Obj) : Below w.heap.size w (grow w os) :=
  ⟨rfl, rfl, rfl, by simp [grow], fun k h => by simp [grow, Array.getElem?_append_left h]⟩
theorem itoa_ok (n : Int) (h0 : -9223372036854775808 ≤ n) (h1 : n ≤ 9223372036854775807) : Ok Tryz.prog 96 [vI n] (vS (itoaB n)) [] :=
  Ok.below (us := [.int .i64 n]) fun w hg => (Tryz.strconv_Itoa n h0 h1 w (hg.pow _ named_pow)).mono fun e w' ⟨he, k, os, hw⟩ =>
    ⟨_, he, by subst hw; exact (below_drew w k).trans (below_grow (w.drewN k) os), fun _ _ => .b _⟩
theorem zeros_ok (k : Nat) (hk : k ≤ 1000000) : Ok Tryz.prog 93 [vS ⟨#[48]⟩, vI k] (vS (zeroS k)) [] :=
  Ok.below (us := [.string ⟨#[48]⟩, .int .i64 k]) fun w hg => (Tryz.strings_Repeat ⟨#[48]⟩ k w (by omega) (by show 1 * k ≤ _; omega)).mono fun e w' ⟨he, hb⟩ =>
    ⟨_, he, hb, fun _ _ => by rw [show (⟨(Lib.repeatL (⟨#[48]⟩ : ByteArray).data.toList k).toArray⟩ : ByteArray) = zeroS k from zeroS_eq k]; exact .b _⟩
def escB (s : ByteArray) : ByteArray := ⟨(Lib.replaceAll s.data.toList [39] [39, 39]).toArray⟩
theorem escB_size (s : ByteArray) : (escB s).size ≤ 2 * s.size := by
  unfold escB
  rw [replaceAll_esc]
  exact esc_length s.data.toList
theorem esc_ok (s : ByteArray) (hs : s.size ≤ 1000000) : Ok Tryz.prog 52 [vS s, vS ⟨#[39]⟩, vS ⟨#[39, 39]⟩] (vS (escB s)) [] :=
  Ok.below (us := [.string s, .string ⟨#[39]⟩, .string ⟨#[39, 39]⟩]) fun w hg => by
    obtain ⟨m, hm⟩ := hg.maxLen _ named_maxLen
    have hc := count39_le s
    have h2 : (⟨#[39, 39]⟩ : ByteArray).size = 2 := rfl
    exact (Tryz.strings_ReplaceAll s ⟨#[39]⟩ ⟨#[39, 39]⟩ m w (by omega) hm (Nat.le_refl _) (by rw [h2]; omega)).mono fun e w' ⟨he, hb⟩ => ⟨_, he, hb, fun _ _ => .b _⟩
theorem fbool_ok (b : Bool) : Ok Tryz.prog 74 [.b (.bool b)] (vS (if b = true then ⟨#[116, 114, 117, 101]⟩ else ⟨#[102, 97, 108, 115, 101]⟩)) [] :=
  Ok.below (us := [.bool b]) fun w hg => (Tryz.strconv_FormatBool b w).mono fun e w' ⟨he, hw⟩ => ⟨_, he, hw ▸ Below.refl _ _, fun _ _ => by cases b <;> exact .b _⟩
theorem wstr (B b : Nat) (bs : List Value) (s : ByteArray) (w : World) (h : Lib.IsBuilderF 70 5 B b bs w) (hlen : bs.length + s.size ≤ 140737488355328) (hBw : B ≤ w.heap.size) :
    Calls Tryz.prog 31 #[.pointer (some ⟨b, 0, none⟩), .string s] w fun e w' => e = .returned (.tuple #[.int .i64 s.size, .nilIface]) ∧ (Lib.BuilderAtF 70 5 B b (.pointer (some ⟨b, 0, none⟩)) (bs ++ Lib.strCells s) w' ∧ Below B w w' ∧ Lib.OthersKept 5 (some b) w w') :=
  Any.Builder_WriteString_k { Tryz.lays155 with } Tryz.Builder_Extra_155 B b bs s w h hlen hBw
end Go.Proofs.YtneapbfomhalpaaGreatDoor.T
