/- Walks of the seat's functions, written by a program of this session (xprint.py) with the kit's printer: each call comes to just what its Lean function says. -/
import Derived.Test.YtepihebkdnmppaaxAkAk0
import Derived.Test.YtepihebkdnmppaaxAkAk2
import Derived.Test.YtepihebkdnmppaaxAkAk3
import Derived.Test.YtepihebkdnmppaaxAkAk4
import Derived.Test.YtepihebkdnmppaaxAkAk5
import Derived.Test.YtepihebkdnmppaaxAkAk9
import Derived.Test.YtepihebkdnmppaaxAkAk10
namespace Go.Proofs.Ytepihebkdnmppaa.Ak
open Go.RowKit Go.Proofs.YtepihebkdnmppaaV.PrintWords Go.Proofs.YtepihebkdnmppaaV.PrintLast Go.Proofs.YtepihebkdnmppaaV.PrintMore
attribute [local go_sem] max2_int min2_int max_two min_two xD xE max_four min_four   -- for this text's walks alone
attribute [local go_sem high] World.zQ
set_option linter.unusedVariables false
set_option linter.unusedSimpArgs false

/-! ### laws_FnDiskSync: function 8 -/
mutual
def laws_FnDiskSync.j0 : Nat → List Int → List Int → Bool → Option (Bool)
  | 0, _, _, _ => none
  | k + 1, x0, x1, x20 => if x20 = true then (some true) else ((spec_DrawDiskSync.f k x0).bind fun bt395 => ((impl_DiskSync.f bt395.1 bt395.2.1 bt395.2.2.1 bt395.2.2.2).bind fun bt404 => ((spec_DiskSync.f k bt395.1 bt395.2.1 bt395.2.2.1 bt395.2.2.2).bind fun bt413 => ((laws_jtDisk.f k bt404.1 bt404.2.1 bt404.2.2.1 bt404.2.2.2 bt413.1 bt413.2.1 bt413.2.2.1 bt413.2.2.2).bind fun t421 => (if t421 = true then ((impl_DiskOk.f bt395.1 bt395.2.1 bt395.2.2.1 bt395.2.2.2).bind fun t422 => ((spec_DiskOk.f k bt395.1 bt395.2.1 bt395.2.2.1 bt395.2.2.2).bind fun t423 => (if (t422 != t423) = true then (none) else ((spec_DiskOk.f k bt395.1 bt395.2.1 bt395.2.2.1 bt395.2.2.2).bind fun t424 => (if t424 = true then (laws_FnDiskSync.j1 k x1 (bt395.2.2.2 == 0) bt395.1 bt395.2.1 bt395.2.2.1 bt395.2.2.2 bt404.1 bt404.2.1 bt404.2.2.1 bt404.2.2.2) else (laws_FnDiskSync.j1 k x1 true bt395.1 bt395.2.1 bt395.2.2.1 bt395.2.2.2 bt404.1 bt404.2.1 bt404.2.2.1 bt404.2.2.2)))))) else (none))))))
def laws_FnDiskSync.j1 : Nat → List Int → Bool → List ByteArray → List (S70) → Int → Int → List ByteArray → List (S70) → Int → Int → Option (Bool)
  | 0, _, _, _, _, _, _, _, _, _, _ => none
  | k + 1, x1, x46, x404000, x404001, x404002, x404003, x413000, x413001, x413002, x413003 => if x46 = true then ((spec_DiskSync.f k x404000 x404001 x404002 x404003).bind fun bt425 => ((laws_jtDisk.f k x413000 x413001 x413002 x413003 bt425.1 bt425.2.1 bt425.2.2.1 bt425.2.2.2).bind fun t433 => (if t433 = true then ((impl_DiskOk.f x404000 x404001 x404002 x404003).bind fun t434 => ((spec_DiskOk.f k x404000 x404001 x404002 x404003).bind fun t435 => (some (t434 == t435)))) else (none)))) else ((spec_DrawDiskCrash.f k x1).bind fun bt436 => (if bt436.2.2.2.2.1 < 0 then (laws_FnDiskSync.j2 k 0 bt436.2.2.2.2.2.1 bt436.2.2.2.2.2.2 x404000 x404001 x404002 x404003 x413000 x413001 x413002 x413003) else (laws_FnDiskSync.j2 k bt436.2.2.2.2.1 bt436.2.2.2.2.2.1 bt436.2.2.2.2.2.2 x404000 x404001 x404002 x404003 x413000 x413001 x413002 x413003)))
def laws_FnDiskSync.j2 : Nat → Int → Int → Int → List ByteArray → List (S70) → Int → Int → List ByteArray → List (S70) → Int → Int → Option (Bool)
  | 0, _, _, _, _, _, _, _, _, _, _, _ => none
  | k + 1, x8, x9, x10, x404000, x404001, x404002, x404003, x413000, x413001, x413002, x413003 => (impl_DiskCrash.f k x413000 x413001 x413002 x413003 x8 x9 x10).bind fun bt448 => (laws_FnDiskSync.l0 k 0 x404000 x404001 x404002 x404003 x413000 x413001 x413002 x413003 bt448.1 bt448.2.1 bt448.2.2.1 bt448.2.2.2)
def laws_FnDiskSync.l0 : Nat → Int → List ByteArray → List (S70) → Int → Int → List ByteArray → List (S70) → Int → Int → List ByteArray → List (S70) → Int → Int → Option (Bool)
  | 0, _, _, _, _, _, _, _, _, _, _, _, _, _ => none
  | k + 1, x12, x404000, x404001, x404002, x404003, x413000, x413001, x413002, x413003, x457000, x457001, x457002, x457003 => if x12 < 42 then ((impl_DiskRead.f x457000 x457001 x457002 x457003 x12).bind fun t457 => ((impl_DiskRead.f x404000 x404001 x404002 x404003 x12).bind fun t458 => (if t457.toList = t458.toList then (if 0 ≤ x12 then (if x12 < (x413000.length : Int) then ((impl_DiskRead.f x404000 x404001 x404002 x404003 x12).bind fun t460 => (if (rdOf ByteArray.empty x413000 x12).toList = t460.toList then (laws_FnDiskSync.l0 k (wrap64 (x12 + 1)) x404000 x404001 x404002 x404003 x413000 x413001 x413002 x413003 x457000 x457001 x457002 x457003) else (some false))) else (none)) else (none)) else (some false)))) else (some ((x413001.length : Int) == 0))
end
def laws_FnDiskSync.f (k : Nat) (l0 : List Int) (l1 : List Int) : Option (Bool) := if (l0.length : Int) > 1048576 then (laws_FnDiskSync.j0 k l0 l1 true) else (laws_FnDiskSync.j0 k l0 l1 (decide ((l1.length : Int) > 1048576)))
theorem laws_FnDiskSync.mono_l : ∀ k, (∀ y0 y1 y2, LeO (laws_FnDiskSync.j0 k y0 y1 y2) (laws_FnDiskSync.j0 (k + 1) y0 y1 y2)) ∧ (∀ y0 y1 y2 y3 y4 y5 y6 y7 y8 y9, LeO (laws_FnDiskSync.j1 k y0 y1 y2 y3 y4 y5 y6 y7 y8 y9) (laws_FnDiskSync.j1 (k + 1) y0 y1 y2 y3 y4 y5 y6 y7 y8 y9)) ∧ (∀ y0 y1 y2 y3 y4 y5 y6 y7 y8 y9 y10, LeO (laws_FnDiskSync.j2 k y0 y1 y2 y3 y4 y5 y6 y7 y8 y9 y10) (laws_FnDiskSync.j2 (k + 1) y0 y1 y2 y3 y4 y5 y6 y7 y8 y9 y10)) ∧ (∀ y0 y1 y2 y3 y4 y5 y6 y7 y8 y9 y10 y11 y12, LeO (laws_FnDiskSync.l0 k y0 y1 y2 y3 y4 y5 y6 y7 y8 y9 y10 y11 y12) (laws_FnDiskSync.l0 (k + 1) y0 y1 y2 y3 y4 y5 y6 y7 y8 y9 y10 y11 y12))
  | 0 => ⟨fun _ _ _ r h => by simp [laws_FnDiskSync.j0] at h, fun _ _ _ _ _ _ _ _ _ _ r h => by simp [laws_FnDiskSync.j1] at h, fun _ _ _ _ _ _ _ _ _ _ _ r h => by simp [laws_FnDiskSync.j2] at h, fun _ _ _ _ _ _ _ _ _ _ _ _ _ r h => by simp [laws_FnDiskSync.l0] at h⟩
  | k + 1 => by
    obtain ⟨ih0, ih1, ih2, ih3⟩ := laws_FnDiskSync.mono_l k
    refine ⟨?_, ?_, ?_, ?_⟩
    · intro y0 y1 y2
      unfold laws_FnDiskSync.j0
      repeat' first
      | (with_reducible exact ih0 _ _ _)
      | (with_reducible exact ih1 _ _ _ _ _ _ _ _ _ _)
      | (with_reducible exact ih2 _ _ _ _ _ _ _ _ _ _ _)
      | (with_reducible exact ih3 _ _ _ _ _ _ _ _ _ _ _ _ _)
      | (with_reducible exact impl_DiskCrash.mono _ _ _ _ _ _ _ _)
      | (with_reducible exact laws_jtDisk.mono _ _ _ _ _ _ _ _ _)
      | (with_reducible exact spec_DiskOk.mono _ _ _ _ _)
      | (with_reducible exact spec_DiskSync.mono _ _ _ _ _)
      | (with_reducible exact spec_DrawDiskCrash.mono _ _)
      | (with_reducible exact spec_DrawDiskSync.mono _ _)
      | (with_reducible exact LeO.refl _)
      | (with_reducible exact LeO.none _)
      | (with_reducible refine LeO.ite ?_ ?_)
      | (with_reducible refine LeO.bind ?_ (fun _ => ?_))
      | exact ih0 _ _ _
      | exact ih1 _ _ _ _ _ _ _ _ _ _
      | exact ih2 _ _ _ _ _ _ _ _ _ _ _
      | exact ih3 _ _ _ _ _ _ _ _ _ _ _ _ _
      | exact impl_DiskCrash.mono _ _ _ _ _ _ _ _
      | exact laws_jtDisk.mono _ _ _ _ _ _ _ _ _
      | exact spec_DiskOk.mono _ _ _ _ _
      | exact spec_DiskSync.mono _ _ _ _ _
      | exact spec_DrawDiskCrash.mono _ _
      | exact spec_DrawDiskSync.mono _ _
      | exact LeO.none _
      | refine LeO.ite ?_ ?_
      | refine LeO.bind ?_ (fun _ => ?_)
    · intro y0 y1 y2 y3 y4 y5 y6 y7 y8 y9
      unfold laws_FnDiskSync.j1
      repeat' first
      | (with_reducible exact ih0 _ _ _)
      | (with_reducible exact ih1 _ _ _ _ _ _ _ _ _ _)
      | (with_reducible exact ih2 _ _ _ _ _ _ _ _ _ _ _)
      | (with_reducible exact ih3 _ _ _ _ _ _ _ _ _ _ _ _ _)
      | (with_reducible exact impl_DiskCrash.mono _ _ _ _ _ _ _ _)
      | (with_reducible exact laws_jtDisk.mono _ _ _ _ _ _ _ _ _)
      | (with_reducible exact spec_DiskOk.mono _ _ _ _ _)
      | (with_reducible exact spec_DiskSync.mono _ _ _ _ _)
      | (with_reducible exact spec_DrawDiskCrash.mono _ _)
      | (with_reducible exact spec_DrawDiskSync.mono _ _)
      | (with_reducible exact LeO.refl _)
      | (with_reducible exact LeO.none _)
      | (with_reducible refine LeO.ite ?_ ?_)
      | (with_reducible refine LeO.bind ?_ (fun _ => ?_))
      | exact ih0 _ _ _
      | exact ih1 _ _ _ _ _ _ _ _ _ _
      | exact ih2 _ _ _ _ _ _ _ _ _ _ _
      | exact ih3 _ _ _ _ _ _ _ _ _ _ _ _ _
      | exact impl_DiskCrash.mono _ _ _ _ _ _ _ _
      | exact laws_jtDisk.mono _ _ _ _ _ _ _ _ _
      | exact spec_DiskOk.mono _ _ _ _ _
      | exact spec_DiskSync.mono _ _ _ _ _
      | exact spec_DrawDiskCrash.mono _ _
      | exact spec_DrawDiskSync.mono _ _
      | exact LeO.none _
      | refine LeO.ite ?_ ?_
      | refine LeO.bind ?_ (fun _ => ?_)
    · intro y0 y1 y2 y3 y4 y5 y6 y7 y8 y9 y10
      unfold laws_FnDiskSync.j2
      repeat' first
      | (with_reducible exact ih0 _ _ _)
      | (with_reducible exact ih1 _ _ _ _ _ _ _ _ _ _)
      | (with_reducible exact ih2 _ _ _ _ _ _ _ _ _ _ _)
      | (with_reducible exact ih3 _ _ _ _ _ _ _ _ _ _ _ _ _)
      | (with_reducible exact impl_DiskCrash.mono _ _ _ _ _ _ _ _)
      | (with_reducible exact laws_jtDisk.mono _ _ _ _ _ _ _ _ _)
      | (with_reducible exact spec_DiskOk.mono _ _ _ _ _)
      | (with_reducible exact spec_DiskSync.mono _ _ _ _ _)
      | (with_reducible exact spec_DrawDiskCrash.mono _ _)
      | (with_reducible exact spec_DrawDiskSync.mono _ _)
      | (with_reducible exact LeO.refl _)
      | (with_reducible exact LeO.none _)
      | (with_reducible refine LeO.ite ?_ ?_)
      | (with_reducible refine LeO.bind ?_ (fun _ => ?_))
      | exact ih0 _ _ _
      | exact ih1 _ _ _ _ _ _ _ _ _ _
      | exact ih2 _ _ _ _ _ _ _ _ _ _ _
      | exact ih3 _ _ _ _ _ _ _ _ _ _ _ _ _
      | exact impl_DiskCrash.mono _ _ _ _ _ _ _ _
      | exact laws_jtDisk.mono _ _ _ _ _ _ _ _ _
      | exact spec_DiskOk.mono _ _ _ _ _
      | exact spec_DiskSync.mono _ _ _ _ _
      | exact spec_DrawDiskCrash.mono _ _
      | exact spec_DrawDiskSync.mono _ _
      | exact LeO.none _
      | refine LeO.ite ?_ ?_
      | refine LeO.bind ?_ (fun _ => ?_)
    · intro y0 y1 y2 y3 y4 y5 y6 y7 y8 y9 y10 y11 y12
      unfold laws_FnDiskSync.l0
      repeat' first
      | (with_reducible exact ih0 _ _ _)
      | (with_reducible exact ih1 _ _ _ _ _ _ _ _ _ _)
      | (with_reducible exact ih2 _ _ _ _ _ _ _ _ _ _ _)
      | (with_reducible exact ih3 _ _ _ _ _ _ _ _ _ _ _ _ _)
      | (with_reducible exact impl_DiskCrash.mono _ _ _ _ _ _ _ _)
      | (with_reducible exact laws_jtDisk.mono _ _ _ _ _ _ _ _ _)
      | (with_reducible exact spec_DiskOk.mono _ _ _ _ _)
      | (with_reducible exact spec_DiskSync.mono _ _ _ _ _)
      | (with_reducible exact spec_DrawDiskCrash.mono _ _)
      | (with_reducible exact spec_DrawDiskSync.mono _ _)
      | (with_reducible exact LeO.refl _)
      | (with_reducible exact LeO.none _)
      | (with_reducible refine LeO.ite ?_ ?_)
      | (with_reducible refine LeO.bind ?_ (fun _ => ?_))
      | exact ih0 _ _ _
      | exact ih1 _ _ _ _ _ _ _ _ _ _
      | exact ih2 _ _ _ _ _ _ _ _ _ _ _
      | exact ih3 _ _ _ _ _ _ _ _ _ _ _ _ _
      | exact impl_DiskCrash.mono _ _ _ _ _ _ _ _
      | exact laws_jtDisk.mono _ _ _ _ _ _ _ _ _
      | exact spec_DiskOk.mono _ _ _ _ _
      | exact spec_DiskSync.mono _ _ _ _ _
      | exact spec_DrawDiskCrash.mono _ _
      | exact spec_DrawDiskSync.mono _ _
      | exact LeO.none _
      | refine LeO.ite ?_ ?_
      | refine LeO.bind ?_ (fun _ => ?_)
theorem laws_FnDiskSync.mono : ∀ a0 a1 k, LeO (laws_FnDiskSync.f k a0 a1) (laws_FnDiskSync.f (k + 1) a0 a1) := by
  intro a0 a1 k
  obtain ⟨ih0, ih1, ih2, ih3⟩ := laws_FnDiskSync.mono_l k
  unfold laws_FnDiskSync.f
  repeat' first
      | (with_reducible exact ih0 _ _ _)
      | (with_reducible exact ih1 _ _ _ _ _ _ _ _ _ _)
      | (with_reducible exact ih2 _ _ _ _ _ _ _ _ _ _ _)
      | (with_reducible exact ih3 _ _ _ _ _ _ _ _ _ _ _ _ _)
      | (with_reducible exact impl_DiskCrash.mono _ _ _ _ _ _ _ _)
      | (with_reducible exact laws_jtDisk.mono _ _ _ _ _ _ _ _ _)
      | (with_reducible exact spec_DiskOk.mono _ _ _ _ _)
      | (with_reducible exact spec_DiskSync.mono _ _ _ _ _)
      | (with_reducible exact spec_DrawDiskCrash.mono _ _)
      | (with_reducible exact spec_DrawDiskSync.mono _ _)
      | (with_reducible exact LeO.refl _)
      | (with_reducible exact LeO.none _)
      | (with_reducible refine LeO.ite ?_ ?_)
      | (with_reducible refine LeO.bind ?_ (fun _ => ?_))
      | exact ih0 _ _ _
      | exact ih1 _ _ _ _ _ _ _ _ _ _
      | exact ih2 _ _ _ _ _ _ _ _ _ _ _
      | exact ih3 _ _ _ _ _ _ _ _ _ _ _ _ _
      | exact impl_DiskCrash.mono _ _ _ _ _ _ _ _
      | exact laws_jtDisk.mono _ _ _ _ _ _ _ _ _
      | exact spec_DiskOk.mono _ _ _ _ _
      | exact spec_DiskSync.mono _ _ _ _ _
      | exact spec_DrawDiskCrash.mono _ _
      | exact spec_DrawDiskSync.mono _ _
      | exact LeO.none _
      | refine LeO.ite ?_ ?_
      | refine LeO.bind ?_ (fun _ => ?_)
def laws_FnDiskSync.T5 : Bool × List (List Nat × List Nat) := (true, [([], []), ([], []), ([1], [1]), ([0, 2, 2], [0, 2]), ([3], [3]), ([4, 3], [4]), ([5], [5]), ([6, 5, 5], [5, 6]), ([5], [5]), ([8, 7, 5], [5, 8]), ([7, 9, 5], [5, 7, 9]), ([5, 10], [5, 10]), ([11, 9], [11]), ([12], [12]), ([13, 12, 12], [12, 13]), ([14, 12], [12, 14]), ([12, 15], [12, 15]), ([16, 14], [16]), ([17], [17]), ([18, 17], [17, 18]), ([19, 17], [17, 19]), ([17, 20], [17, 20])])
def laws_FnDiskSync.B5 : List Nat := [0, 0, 2, 7, 15, 31, 63, 127, 63, 511, 1023, 2047, 4095, 8191, 16383, 32767, 65535, 131071, 262143, 524287, 1048575, 2097151]
theorem laws_FnDiskSync.tab5 : rtab .any (opsOf Try.f8 5) = laws_FnDiskSync.T5 := by kernel_rfl
theorem laws_FnDiskSync.bits5 : waitsOk laws_FnDiskSync.T5.2 laws_FnDiskSync.B5 = true := by kernel_rfl
def laws_FnDiskSync.T6 : Bool × List (List Nat × List Nat) := (true, [([], []), ([], []), ([1], [1]), ([0, 2, 2], [0, 2]), ([3, 3], [3]), ([4], [4]), ([5, 4, 4], [4, 5]), ([4], [4]), ([7, 6, 4], [4, 7]), ([6, 8, 4], [4, 6, 8]), ([4, 9], [4, 9]), ([10, 8, 0, 1, 2, 3, 4, 5, 6, 7, 8, 9, 10], [10])])
def laws_FnDiskSync.B6 : List Nat := [0, 0, 2, 7, 15, 31, 63, 31, 255, 511, 1023, 2047]
theorem laws_FnDiskSync.tab6 : rtab .any (opsOf Try.f8 6) = laws_FnDiskSync.T6 := by kernel_rfl
theorem laws_FnDiskSync.bits6 : waitsOk laws_FnDiskSync.T6.2 laws_FnDiskSync.B6 = true := by kernel_rfl
def laws_FnDiskSync.T14 : Bool × List (List Nat × List Nat) := (true, [([], []), ([], []), ([0, 1], [0, 1]), ([], []), ([], []), ([3, 4, 2], [3, 4]), ([2, 5], [2, 5]), ([6, 5], [6]), ([7], [7]), ([8, 7], [7, 8]), ([7], [7]), ([9, 10, 7], [7, 9, 10]), ([11, 7], [7, 11]), ([7], [7]), ([7], [7]), ([13, 14, 7, 7], [7, 13, 14]), ([12, 15, 7], [7, 12, 15]), ([7, 16], [7, 16])])
def laws_FnDiskSync.B14 : List Nat := [0, 0, 3, 0, 0, 31, 63, 127, 255, 511, 255, 2047, 4095, 255, 255, 24831, 65535, 131071]
theorem laws_FnDiskSync.tab14 : rtab .any (opsOf Try.f8 14) = laws_FnDiskSync.T14 := by kernel_rfl
theorem laws_FnDiskSync.bits14 : waitsOk laws_FnDiskSync.T14.2 laws_FnDiskSync.B14 = true := by kernel_rfl
set_option maxHeartbeats 8000000 in
set_option maxRecDepth 100000 in
theorem laws_FnDiskSync.calls (k : Nat) (A0 : Option Addr) (c0 : Nat) (l0 : List Int) (A1 : Option Addr) (c1 : Nat) (l1 : List Int) (w : World) (hr0 : Kd.C (Kd.int .u8) w A0 l0.length l0) (hc0 : l0.length ≤ c0) (hr1 : Kd.C (Kd.int .u8) w A1 l1.length l1) (hc1 : l1.length ≤ c1) (h : laws_FnDiskSync.f k l0 l1 = some true) :
    Calls Try.prog 8 #[.slice A0 l0.length c0, .slice A1 l1.length c1] w fun e w' => e = .returned (.bool true) ∧ Below w.heap.size w w' := by
  have hu26 := Try.underlying26
  have HR0 := Aside0.mk hr0
  have HC0 := Aside0.mk hc0
  clear hr0 hc0
  have HR1 := Aside0.mk hr1
  have HC1 := Aside0.mk hc1
  clear hr1 hc1
  have HB := Aside0.mk (Below.refl w.heap.size w)
  have H : (if (l0.length : Int) > 1048576 then (laws_FnDiskSync.j0 k l0 l1 true) else (laws_FnDiskSync.j0 k l0 l1 (decide ((l1.length : Int) > 1048576)))) = some true := h
  clear h
  have HC3 := Aside0.mk H
  clear H
  go_enter Try.func8, Try.ntmps8
  go_upto_region 1 with (fail)
  go_cut [20] (fun v20 wc => ∃ (kq : Nat) (x20_2 : Bool), v20 = .bool x20_2 ∧ Aside0 (laws_FnDiskSync.j0 kq l0 l1 x20_2 = some true) ∧ Aside0 (kq ≤ k) ∧ Aside0 (Below w.heap.size w wc))
  case first =>
    have H := HC3.out
    clear HC3
    by_cases c4 : (l0.length : Int) > 1048576
    · rw [if_pos c4] at H
      have c4b0 : decide (1048576 < (l0.length : Int)) = true := decide_eq_true c4
      have c4b1 : decide (1048576 < l0.length) = true := decide_eq_true (by omega)
      clear c4
      (first | rw [c4b0] | (simp only [i64_w, i32_w]; rw [c4b0]) | skip)
      have H' := Aside0.mk H
      clear H
      go_wp2
      go_meet
      case rel => exact ⟨_, (true), (by first | rfl | (simp; done) | (simp [*]; done)), H', ⟨by first | omega | exact Nat.le_refl _⟩, ⟨by repeat (first | (with_reducible first | exact HB.out | apply qF | apply qC | apply qE) | exact HB.out)⟩⟩
    · rw [if_neg c4] at H
      have c4b0 : decide (1048576 < (l0.length : Int)) = false := decide_eq_false c4
      have c4b1 : decide (1048576 < l0.length) = false := decide_eq_false (by omega)
      clear c4
      (first | rw [c4b0] | (simp only [i64_w, i32_w]; rw [c4b0]) | skip)
      have H' := Aside0.mk H
      clear H
      go_wp2
      go_meet
      case rel => exact ⟨_, (decide ((l1.length : Int) > 1048576)), (by first | rfl | (simp; done) | (simp [*]; done)), H', ⟨by first | omega | exact Nat.le_refl _⟩, ⟨by repeat (first | (with_reducible first | exact HB.out | apply qF | apply qC | apply qE) | exact HB.out)⟩⟩
  case rest =>
    clear HC3
    try clear c1
    try clear p2
    try clear c4
    try clear c4b0
    try clear c4b1
    obtain ⟨kq, x20_2, rfl, HA, HJ2, HB⟩ := hcut
    cases kq with
    | zero => exact absurd HA.out (by simp [laws_FnDiskSync.j0])
    | succ kj2 =>
      have H := HA.out
      clear HA
      simp only [laws_FnDiskSync.j0] at H
      by_cases c5 : x20_2 = true
      · subst c5
        have H1 : (some true) = some true := by first | rfl | (rw [if_pos rfl] at H; exact H)
        clear H
        have H := H1
        clear H1
        have HT_ : true = true := Option.some.inj H
        clear H
        go_wp2
        go_ret
        exact ⟨by first | rfl | (simp [errW_none, errW_some] <;> rfl) | (simp [*, errW_none, errW_some] <;> rfl), by repeat (first | (with_reducible first | exact HB.out | apply qF | apply qC | apply qE) | exact HB.out)⟩
      · replace c5 := Bool.eq_false_iff.mpr c5
        subst c5
        have H1 : ((spec_DrawDiskSync.f kj2 l0).bind fun bt395 => ((impl_DiskSync.f bt395.1 bt395.2.1 bt395.2.2.1 bt395.2.2.2).bind fun bt404 => ((spec_DiskSync.f kj2 bt395.1 bt395.2.1 bt395.2.2.1 bt395.2.2.2).bind fun bt413 => ((laws_jtDisk.f kj2 bt404.1 bt404.2.1 bt404.2.2.1 bt404.2.2.2 bt413.1 bt413.2.1 bt413.2.2.1 bt413.2.2.2).bind fun t421 => (if t421 = true then ((impl_DiskOk.f bt395.1 bt395.2.1 bt395.2.2.1 bt395.2.2.2).bind fun t422 => ((spec_DiskOk.f kj2 bt395.1 bt395.2.1 bt395.2.2.1 bt395.2.2.2).bind fun t423 => (if (t422 != t423) = true then (none) else ((spec_DiskOk.f kj2 bt395.1 bt395.2.1 bt395.2.2.1 bt395.2.2.2).bind fun t424 => (if t424 = true then (laws_FnDiskSync.j1 kj2 l1 (bt395.2.2.2 == 0) bt395.1 bt395.2.1 bt395.2.2.1 bt395.2.2.2 bt404.1 bt404.2.1 bt404.2.2.1 bt404.2.2.2) else (laws_FnDiskSync.j1 kj2 l1 true bt395.1 bt395.2.1 bt395.2.2.1 bt395.2.2.2 bt404.1 bt404.2.1 bt404.2.2.1 bt404.2.2.2)))))) else (none)))))) = some true := by first | rfl | (rw [if_neg (show ¬ (false = true) by decide)] at H; exact H)
        clear H
        have H := H1
        clear H1
        replace H := Option.bind_eq_some_iff.mp H
        obtain ⟨⟨t395, t398, t401, t402⟩, A60, H⟩ := H
        replace H : ((impl_DiskSync.f t395 t398 t401 t402).bind fun bt404 => ((spec_DiskSync.f kj2 t395 t398 t401 t402).bind fun bt413 => ((laws_jtDisk.f kj2 bt404.1 bt404.2.1 bt404.2.2.1 bt404.2.2.2 bt413.1 bt413.2.1 bt413.2.2.1 bt413.2.2.2).bind fun t421 => (if t421 = true then ((impl_DiskOk.f t395 t398 t401 t402).bind fun t422 => ((spec_DiskOk.f kj2 t395 t398 t401 t402).bind fun t423 => (if (t422 != t423) = true then (none) else ((spec_DiskOk.f kj2 t395 t398 t401 t402).bind fun t424 => (if t424 = true then (laws_FnDiskSync.j1 kj2 l1 (t402 == 0) t395 t398 t401 t402 bt404.1 bt404.2.1 bt404.2.2.1 bt404.2.2.2) else (laws_FnDiskSync.j1 kj2 l1 true t395 t398 t401 t402 bt404.1 bt404.2.1 bt404.2.2.1 bt404.2.2.2)))))) else (none))))) = some true := H
        have A6 := Aside0.mk A60
        clear A60
        replace H := Option.bind_eq_some_iff.mp H
        obtain ⟨⟨t404, t407, t410, t411⟩, A70, H⟩ := H
        replace H : ((spec_DiskSync.f kj2 t395 t398 t401 t402).bind fun bt413 => ((laws_jtDisk.f kj2 t404 t407 t410 t411 bt413.1 bt413.2.1 bt413.2.2.1 bt413.2.2.2).bind fun t421 => (if t421 = true then ((impl_DiskOk.f t395 t398 t401 t402).bind fun t422 => ((spec_DiskOk.f kj2 t395 t398 t401 t402).bind fun t423 => (if (t422 != t423) = true then (none) else ((spec_DiskOk.f kj2 t395 t398 t401 t402).bind fun t424 => (if t424 = true then (laws_FnDiskSync.j1 kj2 l1 (t402 == 0) t395 t398 t401 t402 t404 t407 t410 t411) else (laws_FnDiskSync.j1 kj2 l1 true t395 t398 t401 t402 t404 t407 t410 t411)))))) else (none)))) = some true := H
        have A7 := Aside0.mk A70
        clear A70
        have HC8 := Aside0.mk H
        clear H
        go_upto_region 5 with (first | ((with_reducible refine qT (f := 28) rfl ?_); refine zL (some 22) rfl rfl Try.func28 (by kernel_rfl) rfl #[.slice A0 l0.length c0] rfl (by (try simp only [List.map_toArray, List.map_cons, List.map_nil]); first | done | rfl | (simp only [List.length_drop, List.length_take]; rfl)) ?_; (with_reducible refine (spec_DrawDiskSync.calls kj2 _ _ l0 t395 t398 t401 t402 _ ?side1 ?side2 A6.out).mono ?_); (case side1 => repeat (first | exact (Kd.zI HR0.out HB.out) | (with_reducible refine Kd.zC ?_ _) | (with_reducible refine Kd.zD ?_ _) | (with_reducible refine Kd.zH ?_))); (case side2 => exact HC0.out); rintro e w9 ⟨v396, v399, rfl, ho0, ho1, hb⟩; refine ⟨_, rfl, ?_⟩; have n0_ := Aside0.mk (Kd.Q_lower ho0 (qM (by repeat (first | (with_reducible first | exact HB.out | apply qF | apply qC | apply qE) | exact HB.out)))); have n1_ := Aside0.mk (Kd.zJ ho1 (qM (by repeat (first | (with_reducible first | exact HB.out | apply qF | apply qC | apply qE) | exact HB.out)))); have n2_ := Aside0.mk (qN (by repeat (first | (with_reducible first | exact HB.out | apply qF | apply qC | apply qE) | exact HB.out)) hb); clear HB; have HO397 := n0_; have HO400 := n1_; have HB := n2_; clear n0_ n1_ n2_; (try clear hb); (try clear hb2); (try clear hk); (try clear hi); (try clear ho0); (try clear ho1)) | ((with_reducible refine zB (N := 5) rfl ?_); refine qZ ?hg (N := 5) ?hd (cs := #[.slice none 0 0, .slice none 0 0, .int .i64 0, .int .i64 0]) (t := 26) ?hr ?_; (case hd => rfl); (case hg => rfl); (case hr => first | (go_simp; done) | (go_simp; rfl)); intro gb403 hg w10 hbox hb; have n0_ := Aside0.mk (Kd.zP (qw_ HO397.out) hb); have n1_ := Aside0.mk (Kd.qU (rw_ HO400.out) hb); have n2_ := Aside0.mk (qN (by repeat (first | (with_reducible first | exact HB.out | apply qF | apply qC | apply qE) | exact HB.out)) hb); have n3_ := Aside0.mk (hbox); have n4_ := Aside0.mk ((by rw [hg]; exact (qM (by repeat (first | (with_reducible first | exact HB.out | apply qF | apply qC | apply qE) | exact HB.out))) : w.heap.size ≤ gb403)); have n5_ := Aside0.mk ((by rw [hg]; exact (qM (by repeat (first | (with_reducible first | exact HB.out | apply qF | apply qC | apply qE) | exact HB.out))) : w.heap.size ≤ gb403)); clear HO397; clear HO400; clear HB; have HO397 := n0_; have HO400 := n1_; have HB := n2_; have BK403 := n3_; have GW403 := n4_; have GE403 := n5_; clear n0_ n1_ n2_ n3_ n4_ n5_; clear hb hbox hg; obtain ⟨Ao11, co11, eo11, _⟩ := Kd.Q_slice HO397.out; subst eo11; have hcz12_0 : w10.cell? ⟨gb403, 0, none⟩ = some (.slice none 0 0) := (qA BK403.out 0).trans rfl; have hcz12_1 : w10.cell? ⟨gb403, 1, none⟩ = some (.slice none 0 0) := (qA BK403.out 1).trans rfl; have hcz12_2 : w10.cell? ⟨gb403, 2, none⟩ = some (.int .i64 0) := (qA BK403.out 2).trans rfl; have hcz12_3 : w10.cell? ⟨gb403, 3, none⟩ = some (.int .i64 0) := (qA BK403.out 3).trans rfl; have hfz12_0 := qD BK403.out 0; have hfz12_1 := qD BK403.out 1; have hfz12_2 := qD BK403.out 2; have hfz12_3 := qD BK403.out 3; obtain ⟨Ao13, co13, eo13⟩ := Kd.zG HO400.out; subst eo13) | ((with_reducible refine qT (f := 20) rfl ?_); refine zL (some 24) rfl rfl Try.func20 (by kernel_rfl) rfl #[.agg #[.slice Ao11 t395.length co11, .slice Ao13 t398.length co13, .int .i64 t401, .int .i64 t402]] rfl (by (try simp only [List.map_toArray, List.map_cons, List.map_nil]); first | done | rfl | (simp only [List.length_drop, List.length_take]; rfl)) ?_; (with_reducible refine (impl_DiskSync.calls _ _ t395 _ _ t398 t401 t402 t404 t407 t410 t411 _ ?side1 ?side2 ?side3 ?side4 A7.out).mono ?_); (case side1 => refine (Kd.zO (e := 9) (base := w.heap.size) (ok := fun k_ => True) (n := t395.length) (c := co11) ?_).2.2; exact (by (with_reducible repeat (first | apply Kd.zW | apply Kd.zX | apply Kd.zS)); exact (Kd.zU (Kd.Q_far (p := ⟨gb403, 3, none⟩) (Kd.Q_far (p := ⟨gb403, 2, none⟩) (Kd.Q_far (p := ⟨gb403, 1, none⟩) (Kd.Q_far (p := ⟨gb403, 0, none⟩) (Kd.xA HO397.out BK403.out (by decide)) (fun _ hk => hk.2) (.slice Ao11 t395.length co11)) (fun _ hk => hk.2) (.slice Ao13 t398.length co13)) (fun _ hk => hk.2) (.int .i64 t401)) (fun _ hk => hk.2) (.int .i64 t402)) (fun _ h_ => h_.1)))); (case side2 => exact (Kd.zO HO397.out).2.1); (case side3 => refine (Kd.zA (e := 70) (base := w.heap.size) (ok := fun k_ => True) (n := t398.length) (c := co13) ?_).2.2; exact (by (with_reducible repeat (first | apply Kd.qX | apply Kd.qV | apply Kd.qW)); exact (Kd.qS (Kd.R_far (p := ⟨gb403, 3, none⟩) (Kd.R_far (p := ⟨gb403, 2, none⟩) (Kd.R_far (p := ⟨gb403, 1, none⟩) (Kd.R_far (p := ⟨gb403, 0, none⟩) (Kd.qY HO400.out BK403.out (by decide)) (fun _ hk => hk.2) (.slice Ao11 t395.length co11)) (fun _ hk => hk.2) (.slice Ao13 t398.length co13)) (fun _ hk => hk.2) (.int .i64 t401)) (fun _ hk => hk.2) (.int .i64 t402)) (fun _ h_ => h_.1)))); (case side4 => exact (Kd.zA HO400.out).2.1); rintro e w14 ⟨v405, v408, rfl, ho0, ho1, hb⟩; refine ⟨_, rfl, ?_⟩; have n0_ := Aside0.mk (Kd.Q_elder' (by (with_reducible repeat (first | apply Kd.zW | apply Kd.zX | apply Kd.zS)); exact (Kd.zU (Kd.Q_far (p := ⟨gb403, 3, none⟩) (Kd.Q_far (p := ⟨gb403, 2, none⟩) (Kd.Q_far (p := ⟨gb403, 1, none⟩) (Kd.Q_far (p := ⟨gb403, 0, none⟩) (Kd.xA HO397.out BK403.out (by decide)) (fun _ hk => hk.2) (.slice Ao11 t395.length co11)) (fun _ hk => hk.2) (.slice Ao13 t398.length co13)) (fun _ hk => hk.2) (.int .i64 t401)) (fun _ hk => hk.2) (.int .i64 t402)) (fun _ h_ => h_.1))) (Kd.zY ho0) hb); have n1_ := Aside0.mk (Kd.zV (by (with_reducible repeat (first | apply Kd.qX | apply Kd.qV | apply Kd.qW)); exact (Kd.qS (Kd.R_far (p := ⟨gb403, 3, none⟩) (Kd.R_far (p := ⟨gb403, 2, none⟩) (Kd.R_far (p := ⟨gb403, 1, none⟩) (Kd.R_far (p := ⟨gb403, 0, none⟩) (Kd.qY HO400.out BK403.out (by decide)) (fun _ hk => hk.2) (.slice Ao11 t395.length co11)) (fun _ hk => hk.2) (.slice Ao13 t398.length co13)) (fun _ hk => hk.2) (.int .i64 t401)) (fun _ hk => hk.2) (.int .i64 t402)) (fun _ h_ => h_.1))) (Kd.zY ho1) hb); have n2_ := Aside0.mk (Kd.zJ (Kd.zZ ho0 (Kd.Q_lt (by (with_reducible repeat (first | apply Kd.zW | apply Kd.zX | apply Kd.zS)); exact (Kd.zU (Kd.Q_far (p := ⟨gb403, 3, none⟩) (Kd.Q_far (p := ⟨gb403, 2, none⟩) (Kd.Q_far (p := ⟨gb403, 1, none⟩) (Kd.Q_far (p := ⟨gb403, 0, none⟩) (Kd.xA HO397.out BK403.out (by decide)) (fun _ hk => hk.2) (.slice Ao11 t395.length co11)) (fun _ hk => hk.2) (.slice Ao13 t398.length co13)) (fun _ hk => hk.2) (.int .i64 t401)) (fun _ hk => hk.2) (.int .i64 t402)) (fun _ h_ => h_.1))))) (qM (by repeat (first | (with_reducible first | exact HB.out | apply qF | apply qC | apply qE | refine qB ?_ GE403.out) | exact HB.out)))); have n3_ := Aside0.mk (Kd.zJ (Kd.zZ ho1 (Kd.R_lt (by (with_reducible repeat (first | apply Kd.qX | apply Kd.qV | apply Kd.qW)); exact (Kd.qS (Kd.R_far (p := ⟨gb403, 3, none⟩) (Kd.R_far (p := ⟨gb403, 2, none⟩) (Kd.R_far (p := ⟨gb403, 1, none⟩) (Kd.R_far (p := ⟨gb403, 0, none⟩) (Kd.qY HO400.out BK403.out (by decide)) (fun _ hk => hk.2) (.slice Ao11 t395.length co11)) (fun _ hk => hk.2) (.slice Ao13 t398.length co13)) (fun _ hk => hk.2) (.int .i64 t401)) (fun _ hk => hk.2) (.int .i64 t402)) (fun _ h_ => h_.1))))) (qM (by repeat (first | (with_reducible first | exact HB.out | apply qF | apply qC | apply qE | refine qB ?_ GE403.out) | exact HB.out)))); have n4_ := Aside0.mk (qJ (g := gb403) (o := .cells #[.slice Ao11 t395.length co11, .slice Ao13 t398.length co13, .int .i64 t401, .int .i64 t402] 26 (0, 0)) (by (with_reducible repeat (first | refine qH ?_ _ | refine qI ?_ | refine qG ?_ _)); refine qP (cs := #[.slice Ao11 t395.length co11, .slice Ao13 t398.length co13, .int .i64 t401, .int .i64 0]) ?_ 3 _ rfl; (with_reducible repeat (first | refine qH ?_ _ | refine qI ?_ | refine qG ?_ _)); refine qP (cs := #[.slice Ao11 t395.length co11, .slice Ao13 t398.length co13, .int .i64 0, .int .i64 0]) ?_ 2 _ rfl; (with_reducible repeat (first | refine qH ?_ _ | refine qI ?_ | refine qG ?_ _)); refine qP (cs := #[.slice Ao11 t395.length co11, .slice none 0 0, .int .i64 0, .int .i64 0]) ?_ 1 _ rfl; (with_reducible repeat (first | refine qH ?_ _ | refine qI ?_ | refine qG ?_ _)); refine qP (cs := #[.slice none 0 0, .slice none 0 0, .int .i64 0, .int .i64 0]) ?_ 0 _ rfl; (with_reducible repeat (first | refine qH ?_ _ | refine qI ?_ | refine qG ?_ _)); exact BK403.out) hb); have n5_ := Aside0.mk (qN (by repeat (first | (with_reducible first | exact HB.out | apply qF | apply qC | apply qE | refine qB ?_ GE403.out) | exact HB.out)) hb); clear HO397; clear HO400; clear BK403; clear HB; have HO397 := n0_; have HO400 := n1_; have HO406 := n2_; have HO409 := n3_; have BK403 := n4_; have HB := n5_; clear n0_ n1_ n2_ n3_ n4_ n5_; (try clear hb); (try clear hb2); (try clear hk); (try clear hi); (try clear ho0); (try clear ho1)) | ((with_reducible refine zB (N := 6) rfl ?_); refine qZ ?hg (N := 6) ?hd (cs := #[.slice none 0 0, .slice none 0 0, .int .i64 0, .int .i64 0]) (t := 26) ?hr ?_; (case hd => rfl); (case hg => rfl); (case hr => first | (go_simp; done) | (go_simp; rfl)); intro gb412 hg w15 hbox hb; have n0_ := Aside0.mk (Kd.zP (qw_ HO397.out) hb); have n1_ := Aside0.mk (Kd.qU (rw_ HO400.out) hb); have n2_ := Aside0.mk (Kd.qU (rw_ HO406.out) hb); have n3_ := Aside0.mk (Kd.qU (rw_ HO409.out) hb); have n4_ := Aside0.mk (qJ (g := gb403) (o := .cells #[.slice Ao11 t395.length co11, .slice Ao13 t398.length co13, .int .i64 t401, .int .i64 t402] 26 (0, 0)) (bw_ BK403.out) hb); have n5_ := Aside0.mk (qN (by repeat (first | (with_reducible first | exact HB.out | apply qF | apply qC | apply qE | refine qB ?_ GE403.out) | exact HB.out)) hb); have n6_ := Aside0.mk (hbox); have n7_ := Aside0.mk ((by rw [hg]; exact (qM (by repeat (first | (with_reducible first | exact HB.out | apply qF | apply qC | apply qE | refine qB ?_ GE403.out) | exact HB.out))) : w.heap.size ≤ gb412)); have n8_ := Aside0.mk ((by rw [hg]; exact (qM (by repeat (first | (with_reducible first | exact HB.out | apply qF | apply qC | apply qE | refine qB ?_ GE403.out) | exact HB.out))) : w.heap.size ≤ gb412)); have n9_ := Aside0.mk ((by rw [hg]; exact Nat.ne_of_lt (zE (g := gb403) (o := .cells #[.slice Ao11 t395.length co11, .slice Ao13 t398.length co13, .int .i64 t401, .int .i64 t402] 26 (0, 0)) (bw_ BK403.out)) : gb403 ≠ gb412)); have n10_ := Aside0.mk ((by rw [hg]; exact Nat.ne_of_gt (zE (g := gb403) (o := .cells #[.slice Ao11 t395.length co11, .slice Ao13 t398.length co13, .int .i64 t401, .int .i64 t402] 26 (0, 0)) (bw_ BK403.out)) : gb412 ≠ gb403)); clear HO397; clear HO400; clear HO406; clear HO409; clear BK403; clear HB; have HO397 := n0_; have HO400 := n1_; have HO406 := n2_; have HO409 := n3_; have BK403 := n4_; have HB := n5_; have BK412 := n6_; have GW412 := n7_; have GE412 := n8_; have NB403_412 := n9_; have NB412_403 := n10_; clear n0_ n1_ n2_ n3_ n4_ n5_ n6_ n7_ n8_ n9_ n10_; clear hb hbox hg; obtain ⟨Ao16, co16, eo16⟩ := Kd.zG HO406.out; subst eo16; have hnb17 := NB412_403.out; have hnc17 := NB403_412.out; have hcz18_0 : w15.cell? ⟨gb412, 0, none⟩ = some (.slice none 0 0) := (qA BK412.out 0).trans rfl; have hcz18_1 : w15.cell? ⟨gb412, 1, none⟩ = some (.slice none 0 0) := (qA BK412.out 1).trans rfl; have hcz18_2 : w15.cell? ⟨gb412, 2, none⟩ = some (.int .i64 0) := (qA BK412.out 2).trans rfl; have hcz18_3 : w15.cell? ⟨gb412, 3, none⟩ = some (.int .i64 0) := (qA BK412.out 3).trans rfl; have hfz18_0 := qD BK412.out 0; have hfz18_1 := qD BK412.out 1; have hfz18_2 := qD BK412.out 2; have hfz18_3 := qD BK412.out 3; obtain ⟨Ao19, co19, eo19⟩ := Kd.zG HO409.out; subst eo19))
        (try simp only [Act.put, List.setIfInBounds_toArray, List.set_cons_zero, List.set_cons_succ])
        go_cut [46] (fun v46 wc => ∃ (kq : Nat) (x46_7 : Bool), v46 = .bool x46_7 ∧ Aside0 (laws_FnDiskSync.j1 kq l1 x46_7 t395 t398 t401 t402 t404 t407 t410 t411 = some true) ∧ Aside0 (kq ≤ kj2) ∧ Aside0 (Kd.Q Kd.string 9 wc w.heap.size (fun k_ => some k_ ≠ ((.slice Ao16 t404.length co16) : Value).ownBlock) (.slice Ao11 t395.length co11) t395) ∧ Aside0 (Kd.R k70 70 wc w.heap.size (fun k_ => some k_ ≠ ((.slice Ao19 t407.length co19) : Value).ownBlock) (.slice Ao13 t398.length co13) t398) ∧ Aside0 (Kd.Q Kd.string 9 wc w.heap.size (fun k_ => some k_ ≠ ((.slice Ao11 t395.length co11) : Value).ownBlock) (.slice Ao16 t404.length co16) t404) ∧ Aside0 (Kd.R k70 70 wc w.heap.size (fun k_ => some k_ ≠ ((.slice Ao13 t398.length co13) : Value).ownBlock) (.slice Ao19 t407.length co19) t407) ∧ Aside0 (wc.heap[gb403]? = some (.cells #[(.slice Ao11 t395.length co11), (.slice Ao13 t398.length co13), .int .i64 t401, .int .i64 t402] 26 (0, 0))) ∧ Aside0 (wc.heap[gb412]? = some (.cells #[(.slice Ao16 t404.length co16), (.slice Ao19 t407.length co19), .int .i64 t410, .int .i64 t411] 26 (0, 0))) ∧ Aside0 (Below w.heap.size w wc))
        case first =>
          have H := HC8.out
          clear HC8
          replace H := Option.bind_eq_some_iff.mp H
          obtain ⟨⟨t413, t416, t419, t420⟩, A200, H⟩ := H
          replace H : ((laws_jtDisk.f kj2 t404 t407 t410 t411 t413 t416 t419 t420).bind fun t421 => (if t421 = true then ((impl_DiskOk.f t395 t398 t401 t402).bind fun t422 => ((spec_DiskOk.f kj2 t395 t398 t401 t402).bind fun t423 => (if (t422 != t423) = true then (none) else ((spec_DiskOk.f kj2 t395 t398 t401 t402).bind fun t424 => (if t424 = true then (laws_FnDiskSync.j1 kj2 l1 (t402 == 0) t395 t398 t401 t402 t404 t407 t410 t411) else (laws_FnDiskSync.j1 kj2 l1 true t395 t398 t401 t402 t404 t407 t410 t411)))))) else (none))) = some true := H
          have A20 := Aside0.mk A200
          clear A200
          replace H := Option.bind_eq_some_iff.mp H
          obtain ⟨t421, A210, H⟩ := H
          replace H : (if t421 = true then ((impl_DiskOk.f t395 t398 t401 t402).bind fun t422 => ((spec_DiskOk.f kj2 t395 t398 t401 t402).bind fun t423 => (if (t422 != t423) = true then (none) else ((spec_DiskOk.f kj2 t395 t398 t401 t402).bind fun t424 => (if t424 = true then (laws_FnDiskSync.j1 kj2 l1 (t402 == 0) t395 t398 t401 t402 t404 t407 t410 t411) else (laws_FnDiskSync.j1 kj2 l1 true t395 t398 t401 t402 t404 t407 t410 t411)))))) else (none)) = some true := H
          have A21 := Aside0.mk A210
          clear A210
          by_cases c22 : t421 = true
          · subst c22
            have H1 : ((impl_DiskOk.f t395 t398 t401 t402).bind fun t422 => ((spec_DiskOk.f kj2 t395 t398 t401 t402).bind fun t423 => (if (t422 != t423) = true then (none) else ((spec_DiskOk.f kj2 t395 t398 t401 t402).bind fun t424 => (if t424 = true then (laws_FnDiskSync.j1 kj2 l1 (t402 == 0) t395 t398 t401 t402 t404 t407 t410 t411) else (laws_FnDiskSync.j1 kj2 l1 true t395 t398 t401 t402 t404 t407 t410 t411)))))) = some true := by first | rfl | (rw [if_pos rfl] at H; exact H)
            clear H
            have H := H1
            clear H1
            replace H := Option.bind_eq_some_iff.mp H
            obtain ⟨t422, A230, H⟩ := H
            replace H : ((spec_DiskOk.f kj2 t395 t398 t401 t402).bind fun t423 => (if (t422 != t423) = true then (none) else ((spec_DiskOk.f kj2 t395 t398 t401 t402).bind fun t424 => (if t424 = true then (laws_FnDiskSync.j1 kj2 l1 (t402 == 0) t395 t398 t401 t402 t404 t407 t410 t411) else (laws_FnDiskSync.j1 kj2 l1 true t395 t398 t401 t402 t404 t407 t410 t411))))) = some true := H
            have A23 := Aside0.mk A230
            clear A230
            replace H := Option.bind_eq_some_iff.mp H
            obtain ⟨t423, A240, H⟩ := H
            replace H : (if (t422 != t423) = true then (none) else ((spec_DiskOk.f kj2 t395 t398 t401 t402).bind fun t424 => (if t424 = true then (laws_FnDiskSync.j1 kj2 l1 (t402 == 0) t395 t398 t401 t402 t404 t407 t410 t411) else (laws_FnDiskSync.j1 kj2 l1 true t395 t398 t401 t402 t404 t407 t410 t411)))) = some true := H
            have A24 := Aside0.mk A240
            clear A240
            by_cases c25 : (t422 != t423) = true
            · rw [if_pos c25] at H
              exact absurd H (by simp)
            · rw [if_neg c25] at H
              have c25b0 : (t422 != t423) = false := by simpa using c25
              (try (have c25b1 : decide (t422 = t423) = true := by simpa using c25))
              (try (have c25b2 : (t422 == t423) = true := by simpa using c25))
              clear c25
              (first | rw [c25b0] | (simp only [i64_w, i32_w]; rw [c25b0]) | skip)
              replace H := Option.bind_eq_some_iff.mp H
              obtain ⟨t424, A260, H⟩ := H
              replace H : (if t424 = true then (laws_FnDiskSync.j1 kj2 l1 (t402 == 0) t395 t398 t401 t402 t404 t407 t410 t411) else (laws_FnDiskSync.j1 kj2 l1 true t395 t398 t401 t402 t404 t407 t410 t411)) = some true := H
              have A26 := Aside0.mk A260
              clear A260
              by_cases c27 : t424 = true
              · subst c27
                have H1 : (laws_FnDiskSync.j1 kj2 l1 (t402 == 0) t395 t398 t401 t402 t404 t407 t410 t411) = some true := by first | rfl | (rw [if_pos rfl] at H; exact H)
                clear H
                have H := H1
                clear H1
                have H' := Aside0.mk H
                clear H
                try go_wp2
                have n0_ : Aside0 (Kd.Q Kd.string 9 ((((w15.setCell ⟨gb412, 0, none⟩ (.slice Ao16 t404.length co16)).setCell ⟨gb412, 1, none⟩ (.slice Ao19 t407.length co19)).setCell ⟨gb412, 2, none⟩ (.int .i64 t410)).setCell ⟨gb412, 3, none⟩ (.int .i64 t411)) w.heap.size (fun k_ => some k_ ≠ (.slice Ao16 t404.length co16 : Value).ownBlock) (.slice Ao11 t395.length co11) t395) := ⟨by (with_reducible repeat (first | apply Kd.zW | apply Kd.zX | apply Kd.zS)); exact Kd.zU (Kd.Q_far (p := ⟨gb412, 3, none⟩) (Kd.Q_far (p := ⟨gb412, 2, none⟩) (Kd.Q_far (p := ⟨gb412, 1, none⟩) (Kd.Q_far (p := ⟨gb412, 0, none⟩) (Kd.xA HO397.out BK412.out (by decide)) (fun _ hk => hk.2) (.slice Ao16 t404.length co16)) (fun _ hk => hk.2) (.slice Ao19 t407.length co19)) (fun _ hk => hk.2) (.int .i64 t410)) (fun _ hk => hk.2) (.int .i64 t411)) (fun _ hk => hk.1.2)⟩
                have n1_ : Aside0 (Kd.R k70 70 ((((w15.setCell ⟨gb412, 0, none⟩ (.slice Ao16 t404.length co16)).setCell ⟨gb412, 1, none⟩ (.slice Ao19 t407.length co19)).setCell ⟨gb412, 2, none⟩ (.int .i64 t410)).setCell ⟨gb412, 3, none⟩ (.int .i64 t411)) w.heap.size (fun k_ => some k_ ≠ (.slice Ao19 t407.length co19 : Value).ownBlock) (.slice Ao13 t398.length co13) t398) := ⟨by (with_reducible repeat (first | apply Kd.qX | apply Kd.qV | apply Kd.qW)); exact Kd.qS (Kd.R_far (p := ⟨gb412, 3, none⟩) (Kd.R_far (p := ⟨gb412, 2, none⟩) (Kd.R_far (p := ⟨gb412, 1, none⟩) (Kd.R_far (p := ⟨gb412, 0, none⟩) (Kd.qY HO400.out BK412.out (by decide)) (fun _ hk => hk.2) (.slice Ao16 t404.length co16)) (fun _ hk => hk.2) (.slice Ao19 t407.length co19)) (fun _ hk => hk.2) (.int .i64 t410)) (fun _ hk => hk.2) (.int .i64 t411)) (fun _ hk => hk.1.2)⟩
                have n2_ : Aside0 (Kd.R Kd.string 9 ((((w15.setCell ⟨gb412, 0, none⟩ (.slice Ao16 t404.length co16)).setCell ⟨gb412, 1, none⟩ (.slice Ao19 t407.length co19)).setCell ⟨gb412, 2, none⟩ (.int .i64 t410)).setCell ⟨gb412, 3, none⟩ (.int .i64 t411)) w.heap.size (fun k_ => some k_ ≠ (.slice Ao11 t395.length co11 : Value).ownBlock) (.slice Ao16 t404.length co16) t404) := ⟨by (with_reducible repeat (first | apply Kd.qX | apply Kd.qV | apply Kd.qW)); exact Kd.qS (Kd.R_far (p := ⟨gb412, 3, none⟩) (Kd.R_far (p := ⟨gb412, 2, none⟩) (Kd.R_far (p := ⟨gb412, 1, none⟩) (Kd.R_far (p := ⟨gb412, 0, none⟩) (Kd.qY HO406.out BK412.out (by decide)) (fun _ hk => hk.2) (.slice Ao16 t404.length co16)) (fun _ hk => hk.2) (.slice Ao19 t407.length co19)) (fun _ hk => hk.2) (.int .i64 t410)) (fun _ hk => hk.2) (.int .i64 t411)) (fun _ hk => hk.1.2)⟩
                have n3_ : Aside0 (Kd.R k70 70 ((((w15.setCell ⟨gb412, 0, none⟩ (.slice Ao16 t404.length co16)).setCell ⟨gb412, 1, none⟩ (.slice Ao19 t407.length co19)).setCell ⟨gb412, 2, none⟩ (.int .i64 t410)).setCell ⟨gb412, 3, none⟩ (.int .i64 t411)) w.heap.size (fun k_ => some k_ ≠ (.slice Ao13 t398.length co13 : Value).ownBlock) (.slice Ao19 t407.length co19) t407) := ⟨by (with_reducible repeat (first | apply Kd.qX | apply Kd.qV | apply Kd.qW)); exact Kd.qS (Kd.R_far (p := ⟨gb412, 3, none⟩) (Kd.R_far (p := ⟨gb412, 2, none⟩) (Kd.R_far (p := ⟨gb412, 1, none⟩) (Kd.R_far (p := ⟨gb412, 0, none⟩) (Kd.qY HO409.out BK412.out (by decide)) (fun _ hk => hk.2) (.slice Ao16 t404.length co16)) (fun _ hk => hk.2) (.slice Ao19 t407.length co19)) (fun _ hk => hk.2) (.int .i64 t410)) (fun _ hk => hk.2) (.int .i64 t411)) (fun _ hk => hk.1.2)⟩
                have n4_ : Aside0 (((((w15.setCell ⟨gb412, 0, none⟩ (.slice Ao16 t404.length co16)).setCell ⟨gb412, 1, none⟩ (.slice Ao19 t407.length co19)).setCell ⟨gb412, 2, none⟩ (.int .i64 t410)).setCell ⟨gb412, 3, none⟩ (.int .i64 t411)).heap[gb403]? = some (.cells #[.slice Ao11 t395.length co11, .slice Ao13 t398.length co13, .int .i64 t401, .int .i64 t402] 26 (0, 0))) := ⟨by (with_reducible repeat (first | refine qH ?_ _ | refine qI ?_ | refine qG ?_ _)); refine qR ?_ NB403_412.out _; (with_reducible repeat (first | refine qH ?_ _ | refine qI ?_ | refine qG ?_ _)); refine qR ?_ NB403_412.out _; (with_reducible repeat (first | refine qH ?_ _ | refine qI ?_ | refine qG ?_ _)); refine qR ?_ NB403_412.out _; (with_reducible repeat (first | refine qH ?_ _ | refine qI ?_ | refine qG ?_ _)); refine qR ?_ NB403_412.out _; (with_reducible repeat (first | refine qH ?_ _ | refine qI ?_ | refine qG ?_ _)); exact BK403.out⟩
                have n5_ : Aside0 (((((w15.setCell ⟨gb412, 0, none⟩ (.slice Ao16 t404.length co16)).setCell ⟨gb412, 1, none⟩ (.slice Ao19 t407.length co19)).setCell ⟨gb412, 2, none⟩ (.int .i64 t410)).setCell ⟨gb412, 3, none⟩ (.int .i64 t411)).heap[gb412]? = some (.cells #[.slice Ao16 t404.length co16, .slice Ao19 t407.length co19, .int .i64 t410, .int .i64 t411] 26 (0, 0))) := ⟨by (with_reducible repeat (first | refine qH ?_ _ | refine qI ?_ | refine qG ?_ _)); refine qP (cs := #[.slice Ao16 t404.length co16, .slice Ao19 t407.length co19, .int .i64 t410, .int .i64 0]) ?_ 3 _ rfl; (with_reducible repeat (first | refine qH ?_ _ | refine qI ?_ | refine qG ?_ _)); refine qP (cs := #[.slice Ao16 t404.length co16, .slice Ao19 t407.length co19, .int .i64 0, .int .i64 0]) ?_ 2 _ rfl; (with_reducible repeat (first | refine qH ?_ _ | refine qI ?_ | refine qG ?_ _)); refine qP (cs := #[.slice Ao16 t404.length co16, .slice none 0 0, .int .i64 0, .int .i64 0]) ?_ 1 _ rfl; (with_reducible repeat (first | refine qH ?_ _ | refine qI ?_ | refine qG ?_ _)); refine qP (cs := #[.slice none 0 0, .slice none 0 0, .int .i64 0, .int .i64 0]) ?_ 0 _ rfl; (with_reducible repeat (first | refine qH ?_ _ | refine qI ?_ | refine qG ?_ _)); exact BK412.out⟩
                have n6_ : Aside0 (Below w.heap.size w ((((w15.setCell ⟨gb412, 0, none⟩ (.slice Ao16 t404.length co16)).setCell ⟨gb412, 1, none⟩ (.slice Ao19 t407.length co19)).setCell ⟨gb412, 2, none⟩ (.int .i64 t410)).setCell ⟨gb412, 3, none⟩ (.int .i64 t411))) := ⟨by repeat (first | (with_reducible first | exact HB.out | apply qF | apply qC | apply qE | refine qB ?_ GE403.out | refine qB ?_ GE412.out) | exact HB.out)⟩
                (try clear HO397)
                (try clear HO400)
                (try clear HO406)
                (try clear HO409)
                (try clear BK403)
                (try clear BK412)
                (try clear HB)
                generalize ((((w15.setCell ⟨gb412, 0, none⟩ (.slice Ao16 t404.length co16)).setCell ⟨gb412, 1, none⟩ (.slice Ao19 t407.length co19)).setCell ⟨gb412, 2, none⟩ (.int .i64 t410)).setCell ⟨gb412, 3, none⟩ (.int .i64 t411)) = w28 at n0_ n1_ n2_ n3_ n4_ n5_ n6_ ⊢
                have HO397 := n0_
                have HO400 := n1_
                have HO406 := n2_
                have HO409 := n3_
                have BK403 := n4_
                have BK412 := n5_
                have HB := n6_
                clear n0_ n1_ n2_ n3_ n4_ n5_ n6_
                have n0_ := Aside0.mk (Kd.zS HO397.out)
                have n1_ := Aside0.mk (Kd.qW HO400.out)
                have n2_ := Aside0.mk (Kd.qW HO406.out)
                have n3_ := Aside0.mk (Kd.qW HO409.out)
                have n4_ := Aside0.mk (qI BK403.out)
                have n5_ := Aside0.mk (qI BK412.out)
                have n6_ := Aside0.mk (qE HB.out)
                clear HO397
                clear HO400
                clear HO406
                clear HO409
                clear BK403
                clear BK412
                clear HB
                have HO397 := n0_
                have HO400 := n1_
                have HO406 := n2_
                have HO409 := n3_
                have BK403 := n4_
                have BK412 := n5_
                have HB := n6_
                clear n0_ n1_ n2_ n3_ n4_ n5_ n6_
                refine start_ (n := 22) (S := fun w' => w'.cell? ⟨gb412, 0, none⟩ = some (.slice Ao16 t404.length co16) ∧ w'.cell? ⟨gb412, 1, none⟩ = some (.slice Ao19 t407.length co19) ∧ w'.cell? ⟨gb412, 2, none⟩ = some (.int .i64 t410) ∧ w'.cell? ⟨gb412, 3, none⟩ = some (.int .i64 t411) ∧ w'.cell? ⟨gb403, 0, none⟩ = some (.slice Ao11 t395.length co11) ∧ w'.cell? ⟨gb403, 1, none⟩ = some (.slice Ao13 t398.length co13) ∧ w'.cell? ⟨gb403, 2, none⟩ = some (.int .i64 t401) ∧ w'.cell? ⟨gb403, 3, none⟩ = some (.int .i64 t402)) (ds := []) #[false, false, false, false, false, false, false, false, false, false, false, false, false, false, false, false, false, false, false, false, false, false] (by kernel_rfl) rfl rfl ⟨(qA BK412.out 0).trans rfl, (qA BK412.out 1).trans rfl, (qA BK412.out 2).trans rfl, (qA BK412.out 3).trans rfl, (qA BK403.out 0).trans rfl, (qA BK403.out 1).trans rfl, (qA BK403.out 2).trans rfl, (qA BK403.out 3).trans rfl⟩ (fun hHeld => ?_); refine with_tabW laws_FnDiskSync.tab5 laws_FnDiskSync.bits5 (fun HT_ HW_ => ?_)
                generalize w28.drew = w29 at HO397 HO400 HO406 HO409 BK403 BK412 HB hHeld ⊢
                refine take_ (i := 0) (N := some 25) (v := ?_) (a' := ?_) #[true, false, false, false, false, false, false, false, false, false, false, false, false, false, false, false, false, false, false, false, false, false] rfl rfl (zN HT_.out HW_.out (by kernel_rfl)) (fun _ _ _ h => h) (Or.inl ⟨by rfl, ?_⟩) hHeld ?_ ?_
                rotate_left
                · rintro w' ⟨s0, s1, s2, s3, s4, s5, s6, s7⟩
                  go_simp
                  with_reducible rfl
                rotate_left
                · simp only [Act.put, List.setIfInBounds_toArray, List.set_cons_zero, List.set_cons_succ, i64_w, i32_w]
                  rfl
                refine take_ (i := 1) (N := some 26) (v := ?_) (a' := ?_) #[true, true, false, false, false, false, false, false, false, false, false, false, false, false, false, false, false, false, false, false, false, false] rfl rfl (zN HT_.out HW_.out (by kernel_rfl)) (fun _ _ _ h => h) (Or.inl ⟨by rfl, ?_⟩) hHeld ?_ ?_
                rotate_left
                · rintro w' ⟨s0, s1, s2, s3, s4, s5, s6, s7⟩
                  go_simp
                  with_reducible rfl
                rotate_left
                · simp only [Act.put, List.setIfInBounds_toArray, List.set_cons_zero, List.set_cons_succ, i64_w, i32_w]
                  rfl
                refine one_ (i := 2) (N := some 27) #[true, true, true, false, false, false, false, false, false, false, false, false, false, false, false, false, false, false, false, false, false, false] rfl rfl (zR HT_.out (by kernel_rfl)) (by decide) (fun K hK => ?_)
                refine goes_ Try.func29 (by kernel_rfl) rfl #[.agg #[.slice Ao11 t395.length co11, .slice Ao13 t398.length co13, .int .i64 t401, .int .i64 t402]] (by rfl) rfl rfl (by (try simp only [List.map_toArray, List.map_cons, List.map_nil]); first | done | rfl | (simp only [List.length_drop, List.length_take]; rfl)) ?_
                with_reducible refine (spec_DiskSync.calls kj2 _ _ t395 _ _ t398 t401 t402 t413 t416 t419 t420 _ ?side1 ?side2 ?side3 ?side4 A20.out).mono ?_
                (case side1 => repeat (first | exact (Kd.zO HO397.out).2.2 | (with_reducible refine Kd.zC ?_ _) | (with_reducible refine Kd.zD ?_ _) | (with_reducible refine Kd.zH ?_)))
                (case side2 => exact (Kd.zO HO397.out).2.1)
                (case side3 => repeat (first | exact (Kd.zA HO400.out).2.2 | (with_reducible refine Kd.zC ?_ _) | (with_reducible refine Kd.zD ?_ _) | (with_reducible refine Kd.zH ?_)))
                (case side4 => exact (Kd.zA HO400.out).2.1)
                rintro e w30 ⟨v414, v417, rfl, ho0, ho1, hb⟩
                refine ⟨_, rfl, ?_⟩
                have n0_ := Aside0.mk (Kd.Q_elder' (qw_ HO397.out) (Kd.zY ho0) hb)
                have n1_ := Aside0.mk (Kd.zV (rw_ HO400.out) (Kd.zY ho1) hb)
                have n2_ := Aside0.mk (Kd.zV (rw_ HO406.out) (Kd.zY ho0) hb)
                have n3_ := Aside0.mk (Kd.zV (rw_ HO409.out) (Kd.zY ho1) hb)
                have n4_ := Aside0.mk (Kd.zJ (Kd.zZ (Kd.zZ ho0 (Kd.Q_lt (qw_ HO397.out))) (Kd.R_lt (rw_ HO406.out))) (qM (by repeat (first | (with_reducible first | exact HB.out | apply qF | apply qC | apply qE | refine qB ?_ GE403.out | refine qB ?_ GE412.out) | exact HB.out))))
                have n5_ := Aside0.mk (Kd.zJ (Kd.zZ (Kd.zZ ho1 (Kd.R_lt (rw_ HO400.out))) (Kd.R_lt (rw_ HO409.out))) (qM (by repeat (first | (with_reducible first | exact HB.out | apply qF | apply qC | apply qE | refine qB ?_ GE403.out | refine qB ?_ GE412.out) | exact HB.out))))
                have n6_ := Aside0.mk (qJ (g := gb403) (o := .cells #[.slice Ao11 t395.length co11, .slice Ao13 t398.length co13, .int .i64 t401, .int .i64 t402] 26 (0, 0)) (bw_ BK403.out) hb)
                have n7_ := Aside0.mk (qJ (g := gb412) (o := .cells #[.slice Ao16 t404.length co16, .slice Ao19 t407.length co19, .int .i64 t410, .int .i64 t411] 26 (0, 0)) (bw_ BK412.out) hb)
                have n8_ := Aside0.mk (qN (by repeat (first | (with_reducible first | exact HB.out | apply qF | apply qC | apply qE | refine qB ?_ GE403.out | refine qB ?_ GE412.out) | exact HB.out)) hb)
                clear HO397
                clear HO400
                clear HO406
                clear HO409
                clear BK403
                clear BK412
                clear HB
                have HO397 := n0_
                have HO400 := n1_
                have HO406 := n2_
                have HO409 := n3_
                have HO415 := n4_
                have HO418 := n5_
                have BK403 := n6_
                have BK412 := n7_
                have HB := n8_
                clear n0_ n1_ n2_ n3_ n4_ n5_ n6_ n7_ n8_
                (try clear hb)
                (try clear hb2)
                (try clear hk)
                (try clear hi)
                (try clear ho0)
                (try clear ho1)
                obtain ⟨Ao31, co31, eo31⟩ := Kd.zG HO415.out
                (first | subst eo31 | (injection eo31 with f1_ f2_ f3_; have f4_ := f1_.symm; have f5_ := f3_.symm; clear f1_ f2_ f3_; subst f4_; subst f5_))
                obtain ⟨Ao32, co32, eo32⟩ := Kd.zG HO418.out
                (first | subst eo32 | (injection eo32 with f1_ f2_ f3_; have f4_ := f1_.symm; have f5_ := f3_.symm; clear f1_ f2_ f3_; subst f4_; subst f5_))
                refine hK.out _ _ ⟨(qA BK412.out 0).trans rfl, (qA BK412.out 1).trans rfl, (qA BK412.out 2).trans rfl, (qA BK412.out 3).trans rfl, (qA BK403.out 0).trans rfl, (qA BK403.out 1).trans rfl, (qA BK403.out 2).trans rfl, (qA BK403.out 3).trans rfl⟩ (fun hHeld => ?_)
                clear hK K
                refine norm_ (a' := ?_) ?_ ?_
                rotate_left
                · show Act.put _ (some 27) _ = _
                  simp only [Act.put, List.setIfInBounds_toArray, List.set_cons_zero, List.set_cons_succ, i64_w, i32_w]
                  rfl
                refine one_ (i := 3) (N := some 28) #[true, true, true, true, false, false, false, false, false, false, false, false, false, false, false, false, false, false, false, false, false, false] rfl rfl (zR HT_.out (by kernel_rfl)) (by decide) (fun K hK => ?_)
                refine goes_ Try.func13 (by kernel_rfl) rfl #[.agg #[.slice Ao16 t404.length co16, .slice Ao19 t407.length co19, .int .i64 t410, .int .i64 t411], .agg #[.slice Ao31 t413.length co31, .slice Ao32 t416.length co32, .int .i64 t419, .int .i64 t420]] (by rfl) rfl rfl (by (try simp only [List.map_toArray, List.map_cons, List.map_nil]); first | done | rfl | (simp only [List.length_drop, List.length_take]; rfl)) ?_
                with_reducible refine (laws_jtDisk.calls kj2 _ _ t404 _ _ t407 t410 t411 _ _ t413 _ _ t416 t419 t420 true _ ?side1 ?side2 ?side3 ?side4 ?side5 ?side6 ?side7 ?side8 A21.out).mono ?_
                (case side1 => repeat (first | exact (Kd.zA HO406.out).2.2 | (with_reducible refine Kd.zC ?_ _) | (with_reducible refine Kd.zD ?_ _) | (with_reducible refine Kd.zH ?_)))
                (case side2 => exact (Kd.zA HO406.out).2.1)
                (case side3 => repeat (first | exact (Kd.zA HO409.out).2.2 | (with_reducible refine Kd.zC ?_ _) | (with_reducible refine Kd.zD ?_ _) | (with_reducible refine Kd.zH ?_)))
                (case side4 => exact (Kd.zA HO409.out).2.1)
                (case side5 => repeat (first | exact (Kd.zA HO415.out).2.2 | (with_reducible refine Kd.zC ?_ _) | (with_reducible refine Kd.zD ?_ _) | (with_reducible refine Kd.zH ?_)))
                (case side6 => exact (Kd.zA HO415.out).2.1)
                (case side7 => repeat (first | exact (Kd.zA HO418.out).2.2 | (with_reducible refine Kd.zC ?_ _) | (with_reducible refine Kd.zD ?_ _) | (with_reducible refine Kd.zH ?_)))
                (case side8 => exact (Kd.zA HO418.out).2.1)
                rintro e w33 ⟨rfl, hb⟩
                refine ⟨_, rfl, ?_⟩
                have n0_ := Aside0.mk (Kd.zP (qw_ HO397.out) hb)
                have n1_ := Aside0.mk (Kd.qU (rw_ HO400.out) hb)
                have n2_ := Aside0.mk (Kd.qU (rw_ HO406.out) hb)
                have n3_ := Aside0.mk (Kd.qU (rw_ HO409.out) hb)
                have n4_ := Aside0.mk (Kd.qU (rw_ HO415.out) hb)
                have n5_ := Aside0.mk (Kd.qU (rw_ HO418.out) hb)
                have n6_ := Aside0.mk (qJ (g := gb403) (o := .cells #[.slice Ao11 t395.length co11, .slice Ao13 t398.length co13, .int .i64 t401, .int .i64 t402] 26 (0, 0)) (bw_ BK403.out) hb)
                have n7_ := Aside0.mk (qJ (g := gb412) (o := .cells #[.slice Ao16 t404.length co16, .slice Ao19 t407.length co19, .int .i64 t410, .int .i64 t411] 26 (0, 0)) (bw_ BK412.out) hb)
                have n8_ := Aside0.mk (qN (by repeat (first | (with_reducible first | exact HB.out | apply qF | apply qC | apply qE | refine qB ?_ GE403.out | refine qB ?_ GE412.out) | exact HB.out)) hb)
                clear HO397
                clear HO400
                clear HO406
                clear HO409
                clear HO415
                clear HO418
                clear BK403
                clear BK412
                clear HB
                have HO397 := n0_
                have HO400 := n1_
                have HO406 := n2_
                have HO409 := n3_
                have HO415 := n4_
                have HO418 := n5_
                have BK403 := n6_
                have BK412 := n7_
                have HB := n8_
                clear n0_ n1_ n2_ n3_ n4_ n5_ n6_ n7_ n8_
                (try clear hb)
                (try clear hb2)
                (try clear hk)
                (try clear hi)
                refine hK.out _ _ ⟨(qA BK412.out 0).trans rfl, (qA BK412.out 1).trans rfl, (qA BK412.out 2).trans rfl, (qA BK412.out 3).trans rfl, (qA BK403.out 0).trans rfl, (qA BK403.out 1).trans rfl, (qA BK403.out 2).trans rfl, (qA BK403.out 3).trans rfl⟩ (fun hHeld => ?_)
                clear hK K
                refine norm_ (a' := ?_) ?_ ?_
                rotate_left
                · show Act.put _ (some 28) _ = _
                  simp only [Act.put, List.setIfInBounds_toArray, List.set_cons_zero, List.set_cons_succ, i64_w, i32_w]
                  rfl
                refine pure_ (i := 4) (N := some 29) (v := ?_) (a' := ?_) #[true, true, true, true, true, false, false, false, false, false, false, false, false, false, false, false, false, false, false, false, false, false] rfl rfl (zK HT_.out (by kernel_rfl)) (fun _ _ _ h => h) (Or.inl ⟨by rfl, ?_⟩) ?_ ?_
                rotate_left
                · intro w'
                  go_simp
                  with_reducible rfl
                rotate_left
                · simp only [Act.put, List.setIfInBounds_toArray, List.set_cons_zero, List.set_cons_succ, i64_w, i32_w]
                  rfl
                refine pure_ (i := 5) (N := some 30) (v := ?_) (a' := ?_) #[true, true, true, true, true, true, false, false, false, false, false, false, false, false, false, false, false, false, false, false, false, false] rfl rfl (zK HT_.out (by kernel_rfl)) (fun _ _ _ h => h) (Or.inl ⟨by rfl, ?_⟩) ?_ ?_
                rotate_left
                · intro w'
                  go_simp
                  with_reducible rfl
                rotate_left
                · simp only [Act.put, List.setIfInBounds_toArray, List.set_cons_zero, List.set_cons_succ, i64_w, i32_w]
                  rfl
                refine take_ (i := 6) (N := some 31) (v := ?_) (a' := ?_) #[true, true, true, true, true, true, true, false, false, false, false, false, false, false, false, false, false, false, false, false, false, false] rfl rfl (zN HT_.out HW_.out (by kernel_rfl)) (fun _ _ _ h => h) (Or.inl ⟨by rfl, ?_⟩) hHeld ?_ ?_
                rotate_left
                · rintro w' ⟨s0, s1, s2, s3, s4, s5, s6, s7⟩
                  go_simp
                  with_reducible rfl
                rotate_left
                · simp only [Act.put, List.setIfInBounds_toArray, List.set_cons_zero, List.set_cons_succ, i64_w, i32_w]
                  rfl
                refine take_ (i := 8) (N := some 33) (v := ?_) (a' := ?_) #[true, true, true, true, true, true, true, false, true, false, false, false, false, false, false, false, false, false, false, false, false, false] rfl rfl (zN HT_.out HW_.out (by kernel_rfl)) (fun _ _ _ h => h) (Or.inl ⟨by rfl, ?_⟩) hHeld ?_ ?_
                rotate_left
                · rintro w' ⟨s0, s1, s2, s3, s4, s5, s6, s7⟩
                  go_simp
                  with_reducible rfl
                rotate_left
                · simp only [Act.put, List.setIfInBounds_toArray, List.set_cons_zero, List.set_cons_succ, i64_w, i32_w]
                  rfl
                refine one_ (i := 7) (N := some 32) #[true, true, true, true, true, true, true, true, true, false, false, false, false, false, false, false, false, false, false, false, false, false] rfl rfl (zR HT_.out (by kernel_rfl)) (by decide) (fun K hK => ?_)
                refine goes_ Try.func22 (by kernel_rfl) rfl #[.agg #[.slice Ao11 t395.length co11, .slice Ao13 t398.length co13, .int .i64 t401, .int .i64 t402]] (by rfl) rfl rfl (by (try simp only [List.map_toArray, List.map_cons, List.map_nil]); first | done | rfl | (simp only [List.length_drop, List.length_take]; rfl)) ?_
                with_reducible refine (impl_DiskOk.calls _ _ t395 _ _ t398 t401 t402 t422 _ ?side1 ?side2 ?side3 ?side4 A23.out).mono ?_
                (case side1 => repeat (first | exact (Kd.zO HO397.out).2.2 | (with_reducible refine Kd.zC ?_ _) | (with_reducible refine Kd.zD ?_ _) | (with_reducible refine Kd.zH ?_)))
                (case side2 => exact (Kd.zO HO397.out).2.1)
                (case side3 => repeat (first | exact (Kd.zA HO400.out).2.2 | (with_reducible refine Kd.zC ?_ _) | (with_reducible refine Kd.zD ?_ _) | (with_reducible refine Kd.zH ?_)))
                (case side4 => exact (Kd.zA HO400.out).2.1)
                rintro e w34 ⟨rfl, hb⟩
                refine ⟨_, rfl, ?_⟩
                have n0_ := Aside0.mk (Kd.zP (qw_ HO397.out) hb)
                have n1_ := Aside0.mk (Kd.qU (rw_ HO400.out) hb)
                have n2_ := Aside0.mk (Kd.qU (rw_ HO406.out) hb)
                have n3_ := Aside0.mk (Kd.qU (rw_ HO409.out) hb)
                have n4_ := Aside0.mk (Kd.qU (rw_ HO415.out) hb)
                have n5_ := Aside0.mk (Kd.qU (rw_ HO418.out) hb)
                have n6_ := Aside0.mk (qJ (g := gb403) (o := .cells #[.slice Ao11 t395.length co11, .slice Ao13 t398.length co13, .int .i64 t401, .int .i64 t402] 26 (0, 0)) (bw_ BK403.out) hb)
                have n7_ := Aside0.mk (qJ (g := gb412) (o := .cells #[.slice Ao16 t404.length co16, .slice Ao19 t407.length co19, .int .i64 t410, .int .i64 t411] 26 (0, 0)) (bw_ BK412.out) hb)
                have n8_ := Aside0.mk (qN (by repeat (first | (with_reducible first | exact HB.out | apply qF | apply qC | apply qE | refine qB ?_ GE403.out | refine qB ?_ GE412.out) | exact HB.out)) hb)
                clear HO397
                clear HO400
                clear HO406
                clear HO409
                clear HO415
                clear HO418
                clear BK403
                clear BK412
                clear HB
                have HO397 := n0_
                have HO400 := n1_
                have HO406 := n2_
                have HO409 := n3_
                have HO415 := n4_
                have HO418 := n5_
                have BK403 := n6_
                have BK412 := n7_
                have HB := n8_
                clear n0_ n1_ n2_ n3_ n4_ n5_ n6_ n7_ n8_
                (try clear hb)
                (try clear hb2)
                (try clear hk)
                (try clear hi)
                refine hK.out _ _ ⟨(qA BK412.out 0).trans rfl, (qA BK412.out 1).trans rfl, (qA BK412.out 2).trans rfl, (qA BK412.out 3).trans rfl, (qA BK403.out 0).trans rfl, (qA BK403.out 1).trans rfl, (qA BK403.out 2).trans rfl, (qA BK403.out 3).trans rfl⟩ (fun hHeld => ?_)
                clear hK K
                refine norm_ (a' := ?_) ?_ ?_
                rotate_left
                · show Act.put _ (some 32) _ = _
                  simp only [Act.put, List.setIfInBounds_toArray, List.set_cons_zero, List.set_cons_succ, i64_w, i32_w]
                  rfl
                refine one_ (i := 9) (N := some 34) #[true, true, true, true, true, true, true, true, true, true, false, false, false, false, false, false, false, false, false, false, false, false] rfl rfl (zR HT_.out (by kernel_rfl)) (by decide) (fun K hK => ?_)
                refine goes_ Try.func15 (by kernel_rfl) rfl #[.agg #[.slice Ao11 t395.length co11, .slice Ao13 t398.length co13, .int .i64 t401, .int .i64 t402]] (by rfl) rfl rfl (by (try simp only [List.map_toArray, List.map_cons, List.map_nil]); first | done | rfl | (simp only [List.length_drop, List.length_take]; rfl)) ?_
                with_reducible refine (spec_DiskOk.calls kj2 _ _ t395 _ _ t398 t401 t402 t423 _ ?side1 ?side2 ?side3 ?side4 A24.out).mono ?_
                (case side1 => repeat (first | exact (Kd.zO HO397.out).2.2 | (with_reducible refine Kd.zC ?_ _) | (with_reducible refine Kd.zD ?_ _) | (with_reducible refine Kd.zH ?_)))
                (case side2 => exact (Kd.zO HO397.out).2.1)
                (case side3 => repeat (first | exact (Kd.zA HO400.out).2.2 | (with_reducible refine Kd.zC ?_ _) | (with_reducible refine Kd.zD ?_ _) | (with_reducible refine Kd.zH ?_)))
                (case side4 => exact (Kd.zA HO400.out).2.1)
                rintro e w35 ⟨rfl, hb⟩
                refine ⟨_, rfl, ?_⟩
                have n0_ := Aside0.mk (Kd.zP (qw_ HO397.out) hb)
                have n1_ := Aside0.mk (Kd.qU (rw_ HO400.out) hb)
                have n2_ := Aside0.mk (Kd.qU (rw_ HO406.out) hb)
                have n3_ := Aside0.mk (Kd.qU (rw_ HO409.out) hb)
                have n4_ := Aside0.mk (Kd.qU (rw_ HO415.out) hb)
                have n5_ := Aside0.mk (Kd.qU (rw_ HO418.out) hb)
                have n6_ := Aside0.mk (qJ (g := gb403) (o := .cells #[.slice Ao11 t395.length co11, .slice Ao13 t398.length co13, .int .i64 t401, .int .i64 t402] 26 (0, 0)) (bw_ BK403.out) hb)
                have n7_ := Aside0.mk (qJ (g := gb412) (o := .cells #[.slice Ao16 t404.length co16, .slice Ao19 t407.length co19, .int .i64 t410, .int .i64 t411] 26 (0, 0)) (bw_ BK412.out) hb)
                have n8_ := Aside0.mk (qN (by repeat (first | (with_reducible first | exact HB.out | apply qF | apply qC | apply qE | refine qB ?_ GE403.out | refine qB ?_ GE412.out) | exact HB.out)) hb)
                clear HO397
                clear HO400
                clear HO406
                clear HO409
                clear HO415
                clear HO418
                clear BK403
                clear BK412
                clear HB
                have HO397 := n0_
                have HO400 := n1_
                have HO406 := n2_
                have HO409 := n3_
                have HO415 := n4_
                have HO418 := n5_
                have BK403 := n6_
                have BK412 := n7_
                have HB := n8_
                clear n0_ n1_ n2_ n3_ n4_ n5_ n6_ n7_ n8_
                (try clear hb)
                (try clear hb2)
                (try clear hk)
                (try clear hi)
                refine hK.out _ _ ⟨(qA BK412.out 0).trans rfl, (qA BK412.out 1).trans rfl, (qA BK412.out 2).trans rfl, (qA BK412.out 3).trans rfl, (qA BK403.out 0).trans rfl, (qA BK403.out 1).trans rfl, (qA BK403.out 2).trans rfl, (qA BK403.out 3).trans rfl⟩ (fun hHeld => ?_)
                clear hK K
                refine norm_ (a' := ?_) ?_ ?_
                rotate_left
                · show Act.put _ (some 34) _ = _
                  simp only [Act.put, List.setIfInBounds_toArray, List.set_cons_zero, List.set_cons_succ, i64_w, i32_w]
                  rfl
                refine pure_ (i := 10) (N := some 35) (v := ?_) (a' := ?_) #[true, true, true, true, true, true, true, true, true, true, true, false, false, false, false, false, false, false, false, false, false, false] rfl rfl (zK HT_.out (by kernel_rfl)) (fun _ _ _ h => h) (Or.inl ⟨by rfl, ?_⟩) ?_ ?_
                rotate_left
                · intro w'
                  go_simp
                  with_reducible rfl
                rotate_left
                · simp only [Act.put, List.setIfInBounds_toArray, List.set_cons_zero, List.set_cons_succ, i64_w, i32_w]
                  rfl
                refine pure_ (i := 11) (N := some 36) (v := ?_) (a' := ?_) #[true, true, true, true, true, true, true, true, true, true, true, true, false, false, false, false, false, false, false, false, false, false] rfl rfl (zK HT_.out (by kernel_rfl)) (fun _ _ _ h => h) (Or.inl ⟨by rfl, ?_⟩) ?_ ?_
                rotate_left
                · intro w'
                  go_simp
                  with_reducible rfl
                rotate_left
                · simp only [Act.put, List.setIfInBounds_toArray, List.set_cons_zero, List.set_cons_succ, i64_w, i32_w]
                  rfl
                refine pure_ (i := 12) (N := some 37) (v := ?_) (a' := ?_) #[true, true, true, true, true, true, true, true, true, true, true, true, true, false, false, false, false, false, false, false, false, false] rfl rfl (zK HT_.out (by kernel_rfl)) (fun _ _ _ h => h) (Or.inl ⟨by rfl, ?_⟩) ?_ ?_
                rotate_left
                · intro w'
                  go_simp
                  with_reducible rfl
                rotate_left
                · simp only [Act.put, List.setIfInBounds_toArray, List.set_cons_zero, List.set_cons_succ, i64_w, i32_w]
                  rfl
                refine take_ (i := 13) (N := some 38) (v := ?_) (a' := ?_) #[true, true, true, true, true, true, true, true, true, true, true, true, true, true, false, false, false, false, false, false, false, false] rfl rfl (zN HT_.out HW_.out (by kernel_rfl)) (fun _ _ _ h => h) (Or.inl ⟨by rfl, ?_⟩) hHeld ?_ ?_
                rotate_left
                · rintro w' ⟨s0, s1, s2, s3, s4, s5, s6, s7⟩
                  go_simp
                  with_reducible rfl
                rotate_left
                · simp only [Act.put, List.setIfInBounds_toArray, List.set_cons_zero, List.set_cons_succ, i64_w, i32_w]
                  rfl
                refine one_ (i := 14) (N := some 39) #[true, true, true, true, true, true, true, true, true, true, true, true, true, true, true, false, false, false, false, false, false, false] rfl rfl (zR HT_.out (by kernel_rfl)) (by decide) (fun K hK => ?_)
                refine goes_ Try.func15 (by kernel_rfl) rfl #[.agg #[.slice Ao11 t395.length co11, .slice Ao13 t398.length co13, .int .i64 t401, .int .i64 t402]] (by rfl) rfl rfl (by (try simp only [List.map_toArray, List.map_cons, List.map_nil]); first | done | rfl | (simp only [List.length_drop, List.length_take]; rfl)) ?_
                with_reducible refine (spec_DiskOk.calls kj2 _ _ t395 _ _ t398 t401 t402 true _ ?side1 ?side2 ?side3 ?side4 A26.out).mono ?_
                (case side1 => repeat (first | exact (Kd.zO HO397.out).2.2 | (with_reducible refine Kd.zC ?_ _) | (with_reducible refine Kd.zD ?_ _) | (with_reducible refine Kd.zH ?_)))
                (case side2 => exact (Kd.zO HO397.out).2.1)
                (case side3 => repeat (first | exact (Kd.zA HO400.out).2.2 | (with_reducible refine Kd.zC ?_ _) | (with_reducible refine Kd.zD ?_ _) | (with_reducible refine Kd.zH ?_)))
                (case side4 => exact (Kd.zA HO400.out).2.1)
                rintro e w36 ⟨rfl, hb⟩
                refine ⟨_, rfl, ?_⟩
                have n0_ := Aside0.mk (Kd.zP (qw_ HO397.out) hb)
                have n1_ := Aside0.mk (Kd.qU (rw_ HO400.out) hb)
                have n2_ := Aside0.mk (Kd.qU (rw_ HO406.out) hb)
                have n3_ := Aside0.mk (Kd.qU (rw_ HO409.out) hb)
                have n4_ := Aside0.mk (Kd.qU (rw_ HO415.out) hb)
                have n5_ := Aside0.mk (Kd.qU (rw_ HO418.out) hb)
                have n6_ := Aside0.mk (qJ (g := gb403) (o := .cells #[.slice Ao11 t395.length co11, .slice Ao13 t398.length co13, .int .i64 t401, .int .i64 t402] 26 (0, 0)) (bw_ BK403.out) hb)
                have n7_ := Aside0.mk (qJ (g := gb412) (o := .cells #[.slice Ao16 t404.length co16, .slice Ao19 t407.length co19, .int .i64 t410, .int .i64 t411] 26 (0, 0)) (bw_ BK412.out) hb)
                have n8_ := Aside0.mk (qN (by repeat (first | (with_reducible first | exact HB.out | apply qF | apply qC | apply qE | refine qB ?_ GE403.out | refine qB ?_ GE412.out) | exact HB.out)) hb)
                clear HO397
                clear HO400
                clear HO406
                clear HO409
                clear HO415
                clear HO418
                clear BK403
                clear BK412
                clear HB
                have HO397 := n0_
                have HO400 := n1_
                have HO406 := n2_
                have HO409 := n3_
                have HO415 := n4_
                have HO418 := n5_
                have BK403 := n6_
                have BK412 := n7_
                have HB := n8_
                clear n0_ n1_ n2_ n3_ n4_ n5_ n6_ n7_ n8_
                (try clear hb)
                (try clear hb2)
                (try clear hk)
                (try clear hi)
                refine hK.out _ _ ⟨(qA BK412.out 0).trans rfl, (qA BK412.out 1).trans rfl, (qA BK412.out 2).trans rfl, (qA BK412.out 3).trans rfl, (qA BK403.out 0).trans rfl, (qA BK403.out 1).trans rfl, (qA BK403.out 2).trans rfl, (qA BK403.out 3).trans rfl⟩ (fun hHeld => ?_)
                clear hK K
                refine norm_ (a' := ?_) ?_ ?_
                rotate_left
                · show Act.put _ (some 39) _ = _
                  simp only [Act.put, List.setIfInBounds_toArray, List.set_cons_zero, List.set_cons_succ, i64_w, i32_w]
                  rfl
                refine pure_ (i := 15) (N := some 40) (v := ?_) (a' := ?_) #[true, true, true, true, true, true, true, true, true, true, true, true, true, true, true, true, false, false, false, false, false, false] rfl rfl (zK HT_.out (by kernel_rfl)) (fun _ _ _ h => h) (Or.inl ⟨by rfl, ?_⟩) ?_ ?_
                rotate_left
                · intro w'
                  go_simp
                  with_reducible rfl
                rotate_left
                · simp only [Act.put, List.setIfInBounds_toArray, List.set_cons_zero, List.set_cons_succ, i64_w, i32_w]
                  rfl
                refine pure_ (i := 16) (N := some 41) (v := ?_) (a' := ?_) #[true, true, true, true, true, true, true, true, true, true, true, true, true, true, true, true, true, false, false, false, false, false] rfl rfl (zK HT_.out (by kernel_rfl)) (fun _ _ _ h => h) (Or.inl ⟨by rfl, ?_⟩) ?_ ?_
                rotate_left
                · intro w'
                  go_simp
                  with_reducible rfl
                rotate_left
                · simp only [Act.put, List.setIfInBounds_toArray, List.set_cons_zero, List.set_cons_succ, i64_w, i32_w]
                  rfl
                refine pure_ (i := 17) (N := some 42) (v := ?_) (a' := ?_) #[true, true, true, true, true, true, true, true, true, true, true, true, true, true, true, true, true, true, false, false, false, false] rfl rfl (zK HT_.out (by kernel_rfl)) (fun _ _ _ h => h) (Or.inl ⟨by rfl, ?_⟩) ?_ ?_
                rotate_left
                · intro w'
                  go_simp
                  with_reducible rfl
                rotate_left
                · simp only [Act.put, List.setIfInBounds_toArray, List.set_cons_zero, List.set_cons_succ, i64_w, i32_w]
                  rfl
                refine pure_ (i := 18) (N := some 43) (v := ?_) (a' := ?_) #[true, true, true, true, true, true, true, true, true, true, true, true, true, true, true, true, true, true, true, false, false, false] rfl rfl (zK HT_.out (by kernel_rfl)) (fun _ _ _ h => h) (Or.inl ⟨by rfl, ?_⟩) ?_ ?_
                rotate_left
                · intro w'
                  go_simp
                  with_reducible rfl
                rotate_left
                · simp only [Act.put, List.setIfInBounds_toArray, List.set_cons_zero, List.set_cons_succ, i64_w, i32_w]
                  rfl
                refine take_ (i := 19) (N := some 44) (v := ?_) (a' := ?_) #[true, true, true, true, true, true, true, true, true, true, true, true, true, true, true, true, true, true, true, true, false, false] rfl rfl (zN HT_.out HW_.out (by kernel_rfl)) (fun _ _ _ h => h) (Or.inl ⟨by rfl, ?_⟩) hHeld ?_ ?_
                rotate_left
                · rintro w' ⟨s0, s1, s2, s3, s4, s5, s6, s7⟩
                  go_simp
                  with_reducible rfl
                rotate_left
                · simp only [Act.put, List.setIfInBounds_toArray, List.set_cons_zero, List.set_cons_succ, i64_w, i32_w]
                  rfl
                refine pure_ (i := 20) (N := some 45) (v := ?_) (a' := ?_) #[true, true, true, true, true, true, true, true, true, true, true, true, true, true, true, true, true, true, true, true, true, false] rfl rfl (zK HT_.out (by kernel_rfl)) (fun _ _ _ h => h) (Or.inl ⟨by rfl, ?_⟩) ?_ ?_
                rotate_left
                · intro w'
                  go_simp
                  with_reducible rfl
                rotate_left
                · simp only [Act.put, List.setIfInBounds_toArray, List.set_cons_zero, List.set_cons_succ, i64_w, i32_w]
                  rfl
                refine pure_ (i := 21) (N := some 46) (v := ?_) (a' := ?_) #[true, true, true, true, true, true, true, true, true, true, true, true, true, true, true, true, true, true, true, true, true, true] rfl rfl (zK HT_.out (by kernel_rfl)) (fun _ _ _ h => h) (Or.inl ⟨by rfl, ?_⟩) ?_ ?_
                rotate_left
                · intro w'
                  go_simp
                  with_reducible rfl
                rotate_left
                · simp only [Act.put, List.setIfInBounds_toArray, List.set_cons_zero, List.set_cons_succ, i64_w, i32_w]
                  rfl
                refine done_ (done_of HT_.out (by kernel_rfl)) ?_
                try go_wp2
                go_meet
                case rel => exact ⟨_, ((t402 == 0)), (by first | rfl | (simp; done) | (simp [*]; done)), H', ⟨by have := HJ2.out; first | omega | exact Nat.le_refl _⟩, ⟨by (with_reducible repeat (first | apply Kd.zW | apply Kd.zX | apply Kd.zS)); exact Kd.zU HO397.out (fun _ hk => hk.1)⟩, ⟨by (with_reducible repeat (first | apply Kd.qX | apply Kd.qV | apply Kd.qW)); exact Kd.qS HO400.out (fun _ hk => hk.1)⟩, ⟨Kd.Q_of_R (by (with_reducible repeat (first | apply Kd.qX | apply Kd.qV | apply Kd.qW)); exact Kd.qS HO406.out (fun _ hk => hk.1))⟩, ⟨by (with_reducible repeat (first | apply Kd.qX | apply Kd.qV | apply Kd.qW)); exact Kd.qS HO409.out (fun _ hk => hk.1)⟩, ⟨by (with_reducible repeat (first | refine qH ?_ _ | refine qI ?_ | refine qG ?_ _)); exact BK403.out⟩, ⟨by (with_reducible repeat (first | refine qH ?_ _ | refine qI ?_ | refine qG ?_ _)); exact BK412.out⟩, ⟨by repeat (first | (with_reducible first | exact HB.out | apply qF | apply qC | apply qE | refine qB ?_ GE403.out | refine qB ?_ GE412.out) | exact HB.out)⟩⟩
              · replace c27 := Bool.eq_false_iff.mpr c27
                subst c27
                have H1 : (laws_FnDiskSync.j1 kj2 l1 true t395 t398 t401 t402 t404 t407 t410 t411) = some true := by first | rfl | (rw [if_neg (show ¬ (false = true) by decide)] at H; exact H)
                clear H
                have H := H1
                clear H1
                have H' := Aside0.mk H
                clear H
                try go_wp2
                have n0_ : Aside0 (Kd.Q Kd.string 9 ((((w15.setCell ⟨gb412, 0, none⟩ (.slice Ao16 t404.length co16)).setCell ⟨gb412, 1, none⟩ (.slice Ao19 t407.length co19)).setCell ⟨gb412, 2, none⟩ (.int .i64 t410)).setCell ⟨gb412, 3, none⟩ (.int .i64 t411)) w.heap.size (fun k_ => some k_ ≠ (.slice Ao16 t404.length co16 : Value).ownBlock) (.slice Ao11 t395.length co11) t395) := ⟨by (with_reducible repeat (first | apply Kd.zW | apply Kd.zX | apply Kd.zS)); exact Kd.zU (Kd.Q_far (p := ⟨gb412, 3, none⟩) (Kd.Q_far (p := ⟨gb412, 2, none⟩) (Kd.Q_far (p := ⟨gb412, 1, none⟩) (Kd.Q_far (p := ⟨gb412, 0, none⟩) (Kd.xA HO397.out BK412.out (by decide)) (fun _ hk => hk.2) (.slice Ao16 t404.length co16)) (fun _ hk => hk.2) (.slice Ao19 t407.length co19)) (fun _ hk => hk.2) (.int .i64 t410)) (fun _ hk => hk.2) (.int .i64 t411)) (fun _ hk => hk.1.2)⟩
                have n1_ : Aside0 (Kd.R k70 70 ((((w15.setCell ⟨gb412, 0, none⟩ (.slice Ao16 t404.length co16)).setCell ⟨gb412, 1, none⟩ (.slice Ao19 t407.length co19)).setCell ⟨gb412, 2, none⟩ (.int .i64 t410)).setCell ⟨gb412, 3, none⟩ (.int .i64 t411)) w.heap.size (fun k_ => some k_ ≠ (.slice Ao19 t407.length co19 : Value).ownBlock) (.slice Ao13 t398.length co13) t398) := ⟨by (with_reducible repeat (first | apply Kd.qX | apply Kd.qV | apply Kd.qW)); exact Kd.qS (Kd.R_far (p := ⟨gb412, 3, none⟩) (Kd.R_far (p := ⟨gb412, 2, none⟩) (Kd.R_far (p := ⟨gb412, 1, none⟩) (Kd.R_far (p := ⟨gb412, 0, none⟩) (Kd.qY HO400.out BK412.out (by decide)) (fun _ hk => hk.2) (.slice Ao16 t404.length co16)) (fun _ hk => hk.2) (.slice Ao19 t407.length co19)) (fun _ hk => hk.2) (.int .i64 t410)) (fun _ hk => hk.2) (.int .i64 t411)) (fun _ hk => hk.1.2)⟩
                have n2_ : Aside0 (Kd.R Kd.string 9 ((((w15.setCell ⟨gb412, 0, none⟩ (.slice Ao16 t404.length co16)).setCell ⟨gb412, 1, none⟩ (.slice Ao19 t407.length co19)).setCell ⟨gb412, 2, none⟩ (.int .i64 t410)).setCell ⟨gb412, 3, none⟩ (.int .i64 t411)) w.heap.size (fun k_ => some k_ ≠ (.slice Ao11 t395.length co11 : Value).ownBlock) (.slice Ao16 t404.length co16) t404) := ⟨by (with_reducible repeat (first | apply Kd.qX | apply Kd.qV | apply Kd.qW)); exact Kd.qS (Kd.R_far (p := ⟨gb412, 3, none⟩) (Kd.R_far (p := ⟨gb412, 2, none⟩) (Kd.R_far (p := ⟨gb412, 1, none⟩) (Kd.R_far (p := ⟨gb412, 0, none⟩) (Kd.qY HO406.out BK412.out (by decide)) (fun _ hk => hk.2) (.slice Ao16 t404.length co16)) (fun _ hk => hk.2) (.slice Ao19 t407.length co19)) (fun _ hk => hk.2) (.int .i64 t410)) (fun _ hk => hk.2) (.int .i64 t411)) (fun _ hk => hk.1.2)⟩
                have n3_ : Aside0 (Kd.R k70 70 ((((w15.setCell ⟨gb412, 0, none⟩ (.slice Ao16 t404.length co16)).setCell ⟨gb412, 1, none⟩ (.slice Ao19 t407.length co19)).setCell ⟨gb412, 2, none⟩ (.int .i64 t410)).setCell ⟨gb412, 3, none⟩ (.int .i64 t411)) w.heap.size (fun k_ => some k_ ≠ (.slice Ao13 t398.length co13 : Value).ownBlock) (.slice Ao19 t407.length co19) t407) := ⟨by (with_reducible repeat (first | apply Kd.qX | apply Kd.qV | apply Kd.qW)); exact Kd.qS (Kd.R_far (p := ⟨gb412, 3, none⟩) (Kd.R_far (p := ⟨gb412, 2, none⟩) (Kd.R_far (p := ⟨gb412, 1, none⟩) (Kd.R_far (p := ⟨gb412, 0, none⟩) (Kd.qY HO409.out BK412.out (by decide)) (fun _ hk => hk.2) (.slice Ao16 t404.length co16)) (fun _ hk => hk.2) (.slice Ao19 t407.length co19)) (fun _ hk => hk.2) (.int .i64 t410)) (fun _ hk => hk.2) (.int .i64 t411)) (fun _ hk => hk.1.2)⟩
                have n4_ : Aside0 (((((w15.setCell ⟨gb412, 0, none⟩ (.slice Ao16 t404.length co16)).setCell ⟨gb412, 1, none⟩ (.slice Ao19 t407.length co19)).setCell ⟨gb412, 2, none⟩ (.int .i64 t410)).setCell ⟨gb412, 3, none⟩ (.int .i64 t411)).heap[gb403]? = some (.cells #[.slice Ao11 t395.length co11, .slice Ao13 t398.length co13, .int .i64 t401, .int .i64 t402] 26 (0, 0))) := ⟨by (with_reducible repeat (first | refine qH ?_ _ | refine qI ?_ | refine qG ?_ _)); refine qR ?_ NB403_412.out _; (with_reducible repeat (first | refine qH ?_ _ | refine qI ?_ | refine qG ?_ _)); refine qR ?_ NB403_412.out _; (with_reducible repeat (first | refine qH ?_ _ | refine qI ?_ | refine qG ?_ _)); refine qR ?_ NB403_412.out _; (with_reducible repeat (first | refine qH ?_ _ | refine qI ?_ | refine qG ?_ _)); refine qR ?_ NB403_412.out _; (with_reducible repeat (first | refine qH ?_ _ | refine qI ?_ | refine qG ?_ _)); exact BK403.out⟩
                have n5_ : Aside0 (((((w15.setCell ⟨gb412, 0, none⟩ (.slice Ao16 t404.length co16)).setCell ⟨gb412, 1, none⟩ (.slice Ao19 t407.length co19)).setCell ⟨gb412, 2, none⟩ (.int .i64 t410)).setCell ⟨gb412, 3, none⟩ (.int .i64 t411)).heap[gb412]? = some (.cells #[.slice Ao16 t404.length co16, .slice Ao19 t407.length co19, .int .i64 t410, .int .i64 t411] 26 (0, 0))) := ⟨by (with_reducible repeat (first | refine qH ?_ _ | refine qI ?_ | refine qG ?_ _)); refine qP (cs := #[.slice Ao16 t404.length co16, .slice Ao19 t407.length co19, .int .i64 t410, .int .i64 0]) ?_ 3 _ rfl; (with_reducible repeat (first | refine qH ?_ _ | refine qI ?_ | refine qG ?_ _)); refine qP (cs := #[.slice Ao16 t404.length co16, .slice Ao19 t407.length co19, .int .i64 0, .int .i64 0]) ?_ 2 _ rfl; (with_reducible repeat (first | refine qH ?_ _ | refine qI ?_ | refine qG ?_ _)); refine qP (cs := #[.slice Ao16 t404.length co16, .slice none 0 0, .int .i64 0, .int .i64 0]) ?_ 1 _ rfl; (with_reducible repeat (first | refine qH ?_ _ | refine qI ?_ | refine qG ?_ _)); refine qP (cs := #[.slice none 0 0, .slice none 0 0, .int .i64 0, .int .i64 0]) ?_ 0 _ rfl; (with_reducible repeat (first | refine qH ?_ _ | refine qI ?_ | refine qG ?_ _)); exact BK412.out⟩
                have n6_ : Aside0 (Below w.heap.size w ((((w15.setCell ⟨gb412, 0, none⟩ (.slice Ao16 t404.length co16)).setCell ⟨gb412, 1, none⟩ (.slice Ao19 t407.length co19)).setCell ⟨gb412, 2, none⟩ (.int .i64 t410)).setCell ⟨gb412, 3, none⟩ (.int .i64 t411))) := ⟨by repeat (first | (with_reducible first | exact HB.out | apply qF | apply qC | apply qE | refine qB ?_ GE403.out | refine qB ?_ GE412.out) | exact HB.out)⟩
                (try clear HO397)
                (try clear HO400)
                (try clear HO406)
                (try clear HO409)
                (try clear BK403)
                (try clear BK412)
                (try clear HB)
                generalize ((((w15.setCell ⟨gb412, 0, none⟩ (.slice Ao16 t404.length co16)).setCell ⟨gb412, 1, none⟩ (.slice Ao19 t407.length co19)).setCell ⟨gb412, 2, none⟩ (.int .i64 t410)).setCell ⟨gb412, 3, none⟩ (.int .i64 t411)) = w37 at n0_ n1_ n2_ n3_ n4_ n5_ n6_ ⊢
                have HO397 := n0_
                have HO400 := n1_
                have HO406 := n2_
                have HO409 := n3_
                have BK403 := n4_
                have BK412 := n5_
                have HB := n6_
                clear n0_ n1_ n2_ n3_ n4_ n5_ n6_
                have n0_ := Aside0.mk (Kd.zS HO397.out)
                have n1_ := Aside0.mk (Kd.qW HO400.out)
                have n2_ := Aside0.mk (Kd.qW HO406.out)
                have n3_ := Aside0.mk (Kd.qW HO409.out)
                have n4_ := Aside0.mk (qI BK403.out)
                have n5_ := Aside0.mk (qI BK412.out)
                have n6_ := Aside0.mk (qE HB.out)
                clear HO397
                clear HO400
                clear HO406
                clear HO409
                clear BK403
                clear BK412
                clear HB
                have HO397 := n0_
                have HO400 := n1_
                have HO406 := n2_
                have HO409 := n3_
                have BK403 := n4_
                have BK412 := n5_
                have HB := n6_
                clear n0_ n1_ n2_ n3_ n4_ n5_ n6_
                refine start_ (n := 22) (S := fun w' => w'.cell? ⟨gb412, 0, none⟩ = some (.slice Ao16 t404.length co16) ∧ w'.cell? ⟨gb412, 1, none⟩ = some (.slice Ao19 t407.length co19) ∧ w'.cell? ⟨gb412, 2, none⟩ = some (.int .i64 t410) ∧ w'.cell? ⟨gb412, 3, none⟩ = some (.int .i64 t411) ∧ w'.cell? ⟨gb403, 0, none⟩ = some (.slice Ao11 t395.length co11) ∧ w'.cell? ⟨gb403, 1, none⟩ = some (.slice Ao13 t398.length co13) ∧ w'.cell? ⟨gb403, 2, none⟩ = some (.int .i64 t401) ∧ w'.cell? ⟨gb403, 3, none⟩ = some (.int .i64 t402)) (ds := []) #[false, false, false, false, false, false, false, false, false, false, false, false, false, false, false, false, false, false, false, false, false, false] (by kernel_rfl) rfl rfl ⟨(qA BK412.out 0).trans rfl, (qA BK412.out 1).trans rfl, (qA BK412.out 2).trans rfl, (qA BK412.out 3).trans rfl, (qA BK403.out 0).trans rfl, (qA BK403.out 1).trans rfl, (qA BK403.out 2).trans rfl, (qA BK403.out 3).trans rfl⟩ (fun hHeld => ?_); refine with_tabW laws_FnDiskSync.tab5 laws_FnDiskSync.bits5 (fun HT_ HW_ => ?_)
                generalize w37.drew = w38 at HO397 HO400 HO406 HO409 BK403 BK412 HB hHeld ⊢
                refine take_ (i := 0) (N := some 25) (v := ?_) (a' := ?_) #[true, false, false, false, false, false, false, false, false, false, false, false, false, false, false, false, false, false, false, false, false, false] rfl rfl (zN HT_.out HW_.out (by kernel_rfl)) (fun _ _ _ h => h) (Or.inl ⟨by rfl, ?_⟩) hHeld ?_ ?_
                rotate_left
                · rintro w' ⟨s0, s1, s2, s3, s4, s5, s6, s7⟩
                  go_simp
                  with_reducible rfl
                rotate_left
                · simp only [Act.put, List.setIfInBounds_toArray, List.set_cons_zero, List.set_cons_succ, i64_w, i32_w]
                  rfl
                refine take_ (i := 1) (N := some 26) (v := ?_) (a' := ?_) #[true, true, false, false, false, false, false, false, false, false, false, false, false, false, false, false, false, false, false, false, false, false] rfl rfl (zN HT_.out HW_.out (by kernel_rfl)) (fun _ _ _ h => h) (Or.inl ⟨by rfl, ?_⟩) hHeld ?_ ?_
                rotate_left
                · rintro w' ⟨s0, s1, s2, s3, s4, s5, s6, s7⟩
                  go_simp
                  with_reducible rfl
                rotate_left
                · simp only [Act.put, List.setIfInBounds_toArray, List.set_cons_zero, List.set_cons_succ, i64_w, i32_w]
                  rfl
                refine one_ (i := 2) (N := some 27) #[true, true, true, false, false, false, false, false, false, false, false, false, false, false, false, false, false, false, false, false, false, false] rfl rfl (zR HT_.out (by kernel_rfl)) (by decide) (fun K hK => ?_)
                refine goes_ Try.func29 (by kernel_rfl) rfl #[.agg #[.slice Ao11 t395.length co11, .slice Ao13 t398.length co13, .int .i64 t401, .int .i64 t402]] (by rfl) rfl rfl (by (try simp only [List.map_toArray, List.map_cons, List.map_nil]); first | done | rfl | (simp only [List.length_drop, List.length_take]; rfl)) ?_
                with_reducible refine (spec_DiskSync.calls kj2 _ _ t395 _ _ t398 t401 t402 t413 t416 t419 t420 _ ?side1 ?side2 ?side3 ?side4 A20.out).mono ?_
                (case side1 => repeat (first | exact (Kd.zO HO397.out).2.2 | (with_reducible refine Kd.zC ?_ _) | (with_reducible refine Kd.zD ?_ _) | (with_reducible refine Kd.zH ?_)))
                (case side2 => exact (Kd.zO HO397.out).2.1)
                (case side3 => repeat (first | exact (Kd.zA HO400.out).2.2 | (with_reducible refine Kd.zC ?_ _) | (with_reducible refine Kd.zD ?_ _) | (with_reducible refine Kd.zH ?_)))
                (case side4 => exact (Kd.zA HO400.out).2.1)
                rintro e w39 ⟨v414, v417, rfl, ho0, ho1, hb⟩
                refine ⟨_, rfl, ?_⟩
                have n0_ := Aside0.mk (Kd.Q_elder' (qw_ HO397.out) (Kd.zY ho0) hb)
                have n1_ := Aside0.mk (Kd.zV (rw_ HO400.out) (Kd.zY ho1) hb)
                have n2_ := Aside0.mk (Kd.zV (rw_ HO406.out) (Kd.zY ho0) hb)
                have n3_ := Aside0.mk (Kd.zV (rw_ HO409.out) (Kd.zY ho1) hb)
                have n4_ := Aside0.mk (Kd.zJ (Kd.zZ (Kd.zZ ho0 (Kd.Q_lt (qw_ HO397.out))) (Kd.R_lt (rw_ HO406.out))) (qM (by repeat (first | (with_reducible first | exact HB.out | apply qF | apply qC | apply qE | refine qB ?_ GE403.out | refine qB ?_ GE412.out) | exact HB.out))))
                have n5_ := Aside0.mk (Kd.zJ (Kd.zZ (Kd.zZ ho1 (Kd.R_lt (rw_ HO400.out))) (Kd.R_lt (rw_ HO409.out))) (qM (by repeat (first | (with_reducible first | exact HB.out | apply qF | apply qC | apply qE | refine qB ?_ GE403.out | refine qB ?_ GE412.out) | exact HB.out))))
                have n6_ := Aside0.mk (qJ (g := gb403) (o := .cells #[.slice Ao11 t395.length co11, .slice Ao13 t398.length co13, .int .i64 t401, .int .i64 t402] 26 (0, 0)) (bw_ BK403.out) hb)
                have n7_ := Aside0.mk (qJ (g := gb412) (o := .cells #[.slice Ao16 t404.length co16, .slice Ao19 t407.length co19, .int .i64 t410, .int .i64 t411] 26 (0, 0)) (bw_ BK412.out) hb)
                have n8_ := Aside0.mk (qN (by repeat (first | (with_reducible first | exact HB.out | apply qF | apply qC | apply qE | refine qB ?_ GE403.out | refine qB ?_ GE412.out) | exact HB.out)) hb)
                clear HO397
                clear HO400
                clear HO406
                clear HO409
                clear BK403
                clear BK412
                clear HB
                have HO397 := n0_
                have HO400 := n1_
                have HO406 := n2_
                have HO409 := n3_
                have HO415 := n4_
                have HO418 := n5_
                have BK403 := n6_
                have BK412 := n7_
                have HB := n8_
                clear n0_ n1_ n2_ n3_ n4_ n5_ n6_ n7_ n8_
                (try clear hb)
                (try clear hb2)
                (try clear hk)
                (try clear hi)
                (try clear ho0)
                (try clear ho1)
                obtain ⟨Ao40, co40, eo40⟩ := Kd.zG HO415.out
                (first | subst eo40 | (injection eo40 with f1_ f2_ f3_; have f4_ := f1_.symm; have f5_ := f3_.symm; clear f1_ f2_ f3_; subst f4_; subst f5_))
                obtain ⟨Ao41, co41, eo41⟩ := Kd.zG HO418.out
                (first | subst eo41 | (injection eo41 with f1_ f2_ f3_; have f4_ := f1_.symm; have f5_ := f3_.symm; clear f1_ f2_ f3_; subst f4_; subst f5_))
                refine hK.out _ _ ⟨(qA BK412.out 0).trans rfl, (qA BK412.out 1).trans rfl, (qA BK412.out 2).trans rfl, (qA BK412.out 3).trans rfl, (qA BK403.out 0).trans rfl, (qA BK403.out 1).trans rfl, (qA BK403.out 2).trans rfl, (qA BK403.out 3).trans rfl⟩ (fun hHeld => ?_)
                clear hK K
                refine norm_ (a' := ?_) ?_ ?_
                rotate_left
                · show Act.put _ (some 27) _ = _
                  simp only [Act.put, List.setIfInBounds_toArray, List.set_cons_zero, List.set_cons_succ, i64_w, i32_w]
                  rfl
                refine one_ (i := 3) (N := some 28) #[true, true, true, true, false, false, false, false, false, false, false, false, false, false, false, false, false, false, false, false, false, false] rfl rfl (zR HT_.out (by kernel_rfl)) (by decide) (fun K hK => ?_)
                refine goes_ Try.func13 (by kernel_rfl) rfl #[.agg #[.slice Ao16 t404.length co16, .slice Ao19 t407.length co19, .int .i64 t410, .int .i64 t411], .agg #[.slice Ao40 t413.length co40, .slice Ao41 t416.length co41, .int .i64 t419, .int .i64 t420]] (by rfl) rfl rfl (by (try simp only [List.map_toArray, List.map_cons, List.map_nil]); first | done | rfl | (simp only [List.length_drop, List.length_take]; rfl)) ?_
                with_reducible refine (laws_jtDisk.calls kj2 _ _ t404 _ _ t407 t410 t411 _ _ t413 _ _ t416 t419 t420 true _ ?side1 ?side2 ?side3 ?side4 ?side5 ?side6 ?side7 ?side8 A21.out).mono ?_
                (case side1 => repeat (first | exact (Kd.zA HO406.out).2.2 | (with_reducible refine Kd.zC ?_ _) | (with_reducible refine Kd.zD ?_ _) | (with_reducible refine Kd.zH ?_)))
                (case side2 => exact (Kd.zA HO406.out).2.1)
                (case side3 => repeat (first | exact (Kd.zA HO409.out).2.2 | (with_reducible refine Kd.zC ?_ _) | (with_reducible refine Kd.zD ?_ _) | (with_reducible refine Kd.zH ?_)))
                (case side4 => exact (Kd.zA HO409.out).2.1)
                (case side5 => repeat (first | exact (Kd.zA HO415.out).2.2 | (with_reducible refine Kd.zC ?_ _) | (with_reducible refine Kd.zD ?_ _) | (with_reducible refine Kd.zH ?_)))
                (case side6 => exact (Kd.zA HO415.out).2.1)
                (case side7 => repeat (first | exact (Kd.zA HO418.out).2.2 | (with_reducible refine Kd.zC ?_ _) | (with_reducible refine Kd.zD ?_ _) | (with_reducible refine Kd.zH ?_)))
                (case side8 => exact (Kd.zA HO418.out).2.1)
                rintro e w42 ⟨rfl, hb⟩
                refine ⟨_, rfl, ?_⟩
                have n0_ := Aside0.mk (Kd.zP (qw_ HO397.out) hb)
                have n1_ := Aside0.mk (Kd.qU (rw_ HO400.out) hb)
                have n2_ := Aside0.mk (Kd.qU (rw_ HO406.out) hb)
                have n3_ := Aside0.mk (Kd.qU (rw_ HO409.out) hb)
                have n4_ := Aside0.mk (Kd.qU (rw_ HO415.out) hb)
                have n5_ := Aside0.mk (Kd.qU (rw_ HO418.out) hb)
                have n6_ := Aside0.mk (qJ (g := gb403) (o := .cells #[.slice Ao11 t395.length co11, .slice Ao13 t398.length co13, .int .i64 t401, .int .i64 t402] 26 (0, 0)) (bw_ BK403.out) hb)
                have n7_ := Aside0.mk (qJ (g := gb412) (o := .cells #[.slice Ao16 t404.length co16, .slice Ao19 t407.length co19, .int .i64 t410, .int .i64 t411] 26 (0, 0)) (bw_ BK412.out) hb)
                have n8_ := Aside0.mk (qN (by repeat (first | (with_reducible first | exact HB.out | apply qF | apply qC | apply qE | refine qB ?_ GE403.out | refine qB ?_ GE412.out) | exact HB.out)) hb)
                clear HO397
                clear HO400
                clear HO406
                clear HO409
                clear HO415
                clear HO418
                clear BK403
                clear BK412
                clear HB
                have HO397 := n0_
                have HO400 := n1_
                have HO406 := n2_
                have HO409 := n3_
                have HO415 := n4_
                have HO418 := n5_
                have BK403 := n6_
                have BK412 := n7_
                have HB := n8_
                clear n0_ n1_ n2_ n3_ n4_ n5_ n6_ n7_ n8_
                (try clear hb)
                (try clear hb2)
                (try clear hk)
                (try clear hi)
                refine hK.out _ _ ⟨(qA BK412.out 0).trans rfl, (qA BK412.out 1).trans rfl, (qA BK412.out 2).trans rfl, (qA BK412.out 3).trans rfl, (qA BK403.out 0).trans rfl, (qA BK403.out 1).trans rfl, (qA BK403.out 2).trans rfl, (qA BK403.out 3).trans rfl⟩ (fun hHeld => ?_)
                clear hK K
                refine norm_ (a' := ?_) ?_ ?_
                rotate_left
                · show Act.put _ (some 28) _ = _
                  simp only [Act.put, List.setIfInBounds_toArray, List.set_cons_zero, List.set_cons_succ, i64_w, i32_w]
                  rfl
                refine pure_ (i := 4) (N := some 29) (v := ?_) (a' := ?_) #[true, true, true, true, true, false, false, false, false, false, false, false, false, false, false, false, false, false, false, false, false, false] rfl rfl (zK HT_.out (by kernel_rfl)) (fun _ _ _ h => h) (Or.inl ⟨by rfl, ?_⟩) ?_ ?_
                rotate_left
                · intro w'
                  go_simp
                  with_reducible rfl
                rotate_left
                · simp only [Act.put, List.setIfInBounds_toArray, List.set_cons_zero, List.set_cons_succ, i64_w, i32_w]
                  rfl
                refine pure_ (i := 5) (N := some 30) (v := ?_) (a' := ?_) #[true, true, true, true, true, true, false, false, false, false, false, false, false, false, false, false, false, false, false, false, false, false] rfl rfl (zK HT_.out (by kernel_rfl)) (fun _ _ _ h => h) (Or.inl ⟨by rfl, ?_⟩) ?_ ?_
                rotate_left
                · intro w'
                  go_simp
                  with_reducible rfl
                rotate_left
                · simp only [Act.put, List.setIfInBounds_toArray, List.set_cons_zero, List.set_cons_succ, i64_w, i32_w]
                  rfl
                refine take_ (i := 6) (N := some 31) (v := ?_) (a' := ?_) #[true, true, true, true, true, true, true, false, false, false, false, false, false, false, false, false, false, false, false, false, false, false] rfl rfl (zN HT_.out HW_.out (by kernel_rfl)) (fun _ _ _ h => h) (Or.inl ⟨by rfl, ?_⟩) hHeld ?_ ?_
                rotate_left
                · rintro w' ⟨s0, s1, s2, s3, s4, s5, s6, s7⟩
                  go_simp
                  with_reducible rfl
                rotate_left
                · simp only [Act.put, List.setIfInBounds_toArray, List.set_cons_zero, List.set_cons_succ, i64_w, i32_w]
                  rfl
                refine take_ (i := 8) (N := some 33) (v := ?_) (a' := ?_) #[true, true, true, true, true, true, true, false, true, false, false, false, false, false, false, false, false, false, false, false, false, false] rfl rfl (zN HT_.out HW_.out (by kernel_rfl)) (fun _ _ _ h => h) (Or.inl ⟨by rfl, ?_⟩) hHeld ?_ ?_
                rotate_left
                · rintro w' ⟨s0, s1, s2, s3, s4, s5, s6, s7⟩
                  go_simp
                  with_reducible rfl
                rotate_left
                · simp only [Act.put, List.setIfInBounds_toArray, List.set_cons_zero, List.set_cons_succ, i64_w, i32_w]
                  rfl
                refine one_ (i := 7) (N := some 32) #[true, true, true, true, true, true, true, true, true, false, false, false, false, false, false, false, false, false, false, false, false, false] rfl rfl (zR HT_.out (by kernel_rfl)) (by decide) (fun K hK => ?_)
                refine goes_ Try.func22 (by kernel_rfl) rfl #[.agg #[.slice Ao11 t395.length co11, .slice Ao13 t398.length co13, .int .i64 t401, .int .i64 t402]] (by rfl) rfl rfl (by (try simp only [List.map_toArray, List.map_cons, List.map_nil]); first | done | rfl | (simp only [List.length_drop, List.length_take]; rfl)) ?_
                with_reducible refine (impl_DiskOk.calls _ _ t395 _ _ t398 t401 t402 t422 _ ?side1 ?side2 ?side3 ?side4 A23.out).mono ?_
                (case side1 => repeat (first | exact (Kd.zO HO397.out).2.2 | (with_reducible refine Kd.zC ?_ _) | (with_reducible refine Kd.zD ?_ _) | (with_reducible refine Kd.zH ?_)))
                (case side2 => exact (Kd.zO HO397.out).2.1)
                (case side3 => repeat (first | exact (Kd.zA HO400.out).2.2 | (with_reducible refine Kd.zC ?_ _) | (with_reducible refine Kd.zD ?_ _) | (with_reducible refine Kd.zH ?_)))
                (case side4 => exact (Kd.zA HO400.out).2.1)
                rintro e w43 ⟨rfl, hb⟩
                refine ⟨_, rfl, ?_⟩
                have n0_ := Aside0.mk (Kd.zP (qw_ HO397.out) hb)
                have n1_ := Aside0.mk (Kd.qU (rw_ HO400.out) hb)
                have n2_ := Aside0.mk (Kd.qU (rw_ HO406.out) hb)
                have n3_ := Aside0.mk (Kd.qU (rw_ HO409.out) hb)
                have n4_ := Aside0.mk (Kd.qU (rw_ HO415.out) hb)
                have n5_ := Aside0.mk (Kd.qU (rw_ HO418.out) hb)
                have n6_ := Aside0.mk (qJ (g := gb403) (o := .cells #[.slice Ao11 t395.length co11, .slice Ao13 t398.length co13, .int .i64 t401, .int .i64 t402] 26 (0, 0)) (bw_ BK403.out) hb)
                have n7_ := Aside0.mk (qJ (g := gb412) (o := .cells #[.slice Ao16 t404.length co16, .slice Ao19 t407.length co19, .int .i64 t410, .int .i64 t411] 26 (0, 0)) (bw_ BK412.out) hb)
                have n8_ := Aside0.mk (qN (by repeat (first | (with_reducible first | exact HB.out | apply qF | apply qC | apply qE | refine qB ?_ GE403.out | refine qB ?_ GE412.out) | exact HB.out)) hb)
                clear HO397
                clear HO400
                clear HO406
                clear HO409
                clear HO415
                clear HO418
                clear BK403
                clear BK412
                clear HB
                have HO397 := n0_
                have HO400 := n1_
                have HO406 := n2_
                have HO409 := n3_
                have HO415 := n4_
                have HO418 := n5_
                have BK403 := n6_
                have BK412 := n7_
                have HB := n8_
                clear n0_ n1_ n2_ n3_ n4_ n5_ n6_ n7_ n8_
                (try clear hb)
                (try clear hb2)
                (try clear hk)
                (try clear hi)
                refine hK.out _ _ ⟨(qA BK412.out 0).trans rfl, (qA BK412.out 1).trans rfl, (qA BK412.out 2).trans rfl, (qA BK412.out 3).trans rfl, (qA BK403.out 0).trans rfl, (qA BK403.out 1).trans rfl, (qA BK403.out 2).trans rfl, (qA BK403.out 3).trans rfl⟩ (fun hHeld => ?_)
                clear hK K
                refine norm_ (a' := ?_) ?_ ?_
                rotate_left
                · show Act.put _ (some 32) _ = _
                  simp only [Act.put, List.setIfInBounds_toArray, List.set_cons_zero, List.set_cons_succ, i64_w, i32_w]
                  rfl
                refine one_ (i := 9) (N := some 34) #[true, true, true, true, true, true, true, true, true, true, false, false, false, false, false, false, false, false, false, false, false, false] rfl rfl (zR HT_.out (by kernel_rfl)) (by decide) (fun K hK => ?_)
                refine goes_ Try.func15 (by kernel_rfl) rfl #[.agg #[.slice Ao11 t395.length co11, .slice Ao13 t398.length co13, .int .i64 t401, .int .i64 t402]] (by rfl) rfl rfl (by (try simp only [List.map_toArray, List.map_cons, List.map_nil]); first | done | rfl | (simp only [List.length_drop, List.length_take]; rfl)) ?_
                with_reducible refine (spec_DiskOk.calls kj2 _ _ t395 _ _ t398 t401 t402 t423 _ ?side1 ?side2 ?side3 ?side4 A24.out).mono ?_
                (case side1 => repeat (first | exact (Kd.zO HO397.out).2.2 | (with_reducible refine Kd.zC ?_ _) | (with_reducible refine Kd.zD ?_ _) | (with_reducible refine Kd.zH ?_)))
                (case side2 => exact (Kd.zO HO397.out).2.1)
                (case side3 => repeat (first | exact (Kd.zA HO400.out).2.2 | (with_reducible refine Kd.zC ?_ _) | (with_reducible refine Kd.zD ?_ _) | (with_reducible refine Kd.zH ?_)))
                (case side4 => exact (Kd.zA HO400.out).2.1)
                rintro e w44 ⟨rfl, hb⟩
                refine ⟨_, rfl, ?_⟩
                have n0_ := Aside0.mk (Kd.zP (qw_ HO397.out) hb)
                have n1_ := Aside0.mk (Kd.qU (rw_ HO400.out) hb)
                have n2_ := Aside0.mk (Kd.qU (rw_ HO406.out) hb)
                have n3_ := Aside0.mk (Kd.qU (rw_ HO409.out) hb)
                have n4_ := Aside0.mk (Kd.qU (rw_ HO415.out) hb)
                have n5_ := Aside0.mk (Kd.qU (rw_ HO418.out) hb)
                have n6_ := Aside0.mk (qJ (g := gb403) (o := .cells #[.slice Ao11 t395.length co11, .slice Ao13 t398.length co13, .int .i64 t401, .int .i64 t402] 26 (0, 0)) (bw_ BK403.out) hb)
                have n7_ := Aside0.mk (qJ (g := gb412) (o := .cells #[.slice Ao16 t404.length co16, .slice Ao19 t407.length co19, .int .i64 t410, .int .i64 t411] 26 (0, 0)) (bw_ BK412.out) hb)
                have n8_ := Aside0.mk (qN (by repeat (first | (with_reducible first | exact HB.out | apply qF | apply qC | apply qE | refine qB ?_ GE403.out | refine qB ?_ GE412.out) | exact HB.out)) hb)
                clear HO397
                clear HO400
                clear HO406
                clear HO409
                clear HO415
                clear HO418
                clear BK403
                clear BK412
                clear HB
                have HO397 := n0_
                have HO400 := n1_
                have HO406 := n2_
                have HO409 := n3_
                have HO415 := n4_
                have HO418 := n5_
                have BK403 := n6_
                have BK412 := n7_
                have HB := n8_
                clear n0_ n1_ n2_ n3_ n4_ n5_ n6_ n7_ n8_
                (try clear hb)
                (try clear hb2)
                (try clear hk)
                (try clear hi)
                refine hK.out _ _ ⟨(qA BK412.out 0).trans rfl, (qA BK412.out 1).trans rfl, (qA BK412.out 2).trans rfl, (qA BK412.out 3).trans rfl, (qA BK403.out 0).trans rfl, (qA BK403.out 1).trans rfl, (qA BK403.out 2).trans rfl, (qA BK403.out 3).trans rfl⟩ (fun hHeld => ?_)
                clear hK K
                refine norm_ (a' := ?_) ?_ ?_
                rotate_left
                · show Act.put _ (some 34) _ = _
                  simp only [Act.put, List.setIfInBounds_toArray, List.set_cons_zero, List.set_cons_succ, i64_w, i32_w]
                  rfl
                refine pure_ (i := 10) (N := some 35) (v := ?_) (a' := ?_) #[true, true, true, true, true, true, true, true, true, true, true, false, false, false, false, false, false, false, false, false, false, false] rfl rfl (zK HT_.out (by kernel_rfl)) (fun _ _ _ h => h) (Or.inl ⟨by rfl, ?_⟩) ?_ ?_
                rotate_left
                · intro w'
                  go_simp
                  with_reducible rfl
                rotate_left
                · simp only [Act.put, List.setIfInBounds_toArray, List.set_cons_zero, List.set_cons_succ, i64_w, i32_w]
                  rfl
                refine pure_ (i := 11) (N := some 36) (v := ?_) (a' := ?_) #[true, true, true, true, true, true, true, true, true, true, true, true, false, false, false, false, false, false, false, false, false, false] rfl rfl (zK HT_.out (by kernel_rfl)) (fun _ _ _ h => h) (Or.inl ⟨by rfl, ?_⟩) ?_ ?_
                rotate_left
                · intro w'
                  go_simp
                  with_reducible rfl
                rotate_left
                · simp only [Act.put, List.setIfInBounds_toArray, List.set_cons_zero, List.set_cons_succ, i64_w, i32_w]
                  rfl
                refine pure_ (i := 12) (N := some 37) (v := ?_) (a' := ?_) #[true, true, true, true, true, true, true, true, true, true, true, true, true, false, false, false, false, false, false, false, false, false] rfl rfl (zK HT_.out (by kernel_rfl)) (fun _ _ _ h => h) (Or.inl ⟨by rfl, ?_⟩) ?_ ?_
                rotate_left
                · intro w'
                  go_simp
                  with_reducible rfl
                rotate_left
                · simp only [Act.put, List.setIfInBounds_toArray, List.set_cons_zero, List.set_cons_succ, i64_w, i32_w]
                  rfl
                refine take_ (i := 13) (N := some 38) (v := ?_) (a' := ?_) #[true, true, true, true, true, true, true, true, true, true, true, true, true, true, false, false, false, false, false, false, false, false] rfl rfl (zN HT_.out HW_.out (by kernel_rfl)) (fun _ _ _ h => h) (Or.inl ⟨by rfl, ?_⟩) hHeld ?_ ?_
                rotate_left
                · rintro w' ⟨s0, s1, s2, s3, s4, s5, s6, s7⟩
                  go_simp
                  with_reducible rfl
                rotate_left
                · simp only [Act.put, List.setIfInBounds_toArray, List.set_cons_zero, List.set_cons_succ, i64_w, i32_w]
                  rfl
                refine one_ (i := 14) (N := some 39) #[true, true, true, true, true, true, true, true, true, true, true, true, true, true, true, false, false, false, false, false, false, false] rfl rfl (zR HT_.out (by kernel_rfl)) (by decide) (fun K hK => ?_)
                refine goes_ Try.func15 (by kernel_rfl) rfl #[.agg #[.slice Ao11 t395.length co11, .slice Ao13 t398.length co13, .int .i64 t401, .int .i64 t402]] (by rfl) rfl rfl (by (try simp only [List.map_toArray, List.map_cons, List.map_nil]); first | done | rfl | (simp only [List.length_drop, List.length_take]; rfl)) ?_
                with_reducible refine (spec_DiskOk.calls kj2 _ _ t395 _ _ t398 t401 t402 false _ ?side1 ?side2 ?side3 ?side4 A26.out).mono ?_
                (case side1 => repeat (first | exact (Kd.zO HO397.out).2.2 | (with_reducible refine Kd.zC ?_ _) | (with_reducible refine Kd.zD ?_ _) | (with_reducible refine Kd.zH ?_)))
                (case side2 => exact (Kd.zO HO397.out).2.1)
                (case side3 => repeat (first | exact (Kd.zA HO400.out).2.2 | (with_reducible refine Kd.zC ?_ _) | (with_reducible refine Kd.zD ?_ _) | (with_reducible refine Kd.zH ?_)))
                (case side4 => exact (Kd.zA HO400.out).2.1)
                rintro e w45 ⟨rfl, hb⟩
                refine ⟨_, rfl, ?_⟩
                have n0_ := Aside0.mk (Kd.zP (qw_ HO397.out) hb)
                have n1_ := Aside0.mk (Kd.qU (rw_ HO400.out) hb)
                have n2_ := Aside0.mk (Kd.qU (rw_ HO406.out) hb)
                have n3_ := Aside0.mk (Kd.qU (rw_ HO409.out) hb)
                have n4_ := Aside0.mk (Kd.qU (rw_ HO415.out) hb)
                have n5_ := Aside0.mk (Kd.qU (rw_ HO418.out) hb)
                have n6_ := Aside0.mk (qJ (g := gb403) (o := .cells #[.slice Ao11 t395.length co11, .slice Ao13 t398.length co13, .int .i64 t401, .int .i64 t402] 26 (0, 0)) (bw_ BK403.out) hb)
                have n7_ := Aside0.mk (qJ (g := gb412) (o := .cells #[.slice Ao16 t404.length co16, .slice Ao19 t407.length co19, .int .i64 t410, .int .i64 t411] 26 (0, 0)) (bw_ BK412.out) hb)
                have n8_ := Aside0.mk (qN (by repeat (first | (with_reducible first | exact HB.out | apply qF | apply qC | apply qE | refine qB ?_ GE403.out | refine qB ?_ GE412.out) | exact HB.out)) hb)
                clear HO397
                clear HO400
                clear HO406
                clear HO409
                clear HO415
                clear HO418
                clear BK403
                clear BK412
                clear HB
                have HO397 := n0_
                have HO400 := n1_
                have HO406 := n2_
                have HO409 := n3_
                have HO415 := n4_
                have HO418 := n5_
                have BK403 := n6_
                have BK412 := n7_
                have HB := n8_
                clear n0_ n1_ n2_ n3_ n4_ n5_ n6_ n7_ n8_
                (try clear hb)
                (try clear hb2)
                (try clear hk)
                (try clear hi)
                refine hK.out _ _ ⟨(qA BK412.out 0).trans rfl, (qA BK412.out 1).trans rfl, (qA BK412.out 2).trans rfl, (qA BK412.out 3).trans rfl, (qA BK403.out 0).trans rfl, (qA BK403.out 1).trans rfl, (qA BK403.out 2).trans rfl, (qA BK403.out 3).trans rfl⟩ (fun hHeld => ?_)
                clear hK K
                refine norm_ (a' := ?_) ?_ ?_
                rotate_left
                · show Act.put _ (some 39) _ = _
                  simp only [Act.put, List.setIfInBounds_toArray, List.set_cons_zero, List.set_cons_succ, i64_w, i32_w]
                  rfl
                refine pure_ (i := 15) (N := some 40) (v := ?_) (a' := ?_) #[true, true, true, true, true, true, true, true, true, true, true, true, true, true, true, true, false, false, false, false, false, false] rfl rfl (zK HT_.out (by kernel_rfl)) (fun _ _ _ h => h) (Or.inl ⟨by rfl, ?_⟩) ?_ ?_
                rotate_left
                · intro w'
                  go_simp
                  with_reducible rfl
                rotate_left
                · simp only [Act.put, List.setIfInBounds_toArray, List.set_cons_zero, List.set_cons_succ, i64_w, i32_w]
                  rfl
                refine pure_ (i := 16) (N := some 41) (v := ?_) (a' := ?_) #[true, true, true, true, true, true, true, true, true, true, true, true, true, true, true, true, true, false, false, false, false, false] rfl rfl (zK HT_.out (by kernel_rfl)) (fun _ _ _ h => h) (Or.inl ⟨by rfl, ?_⟩) ?_ ?_
                rotate_left
                · intro w'
                  go_simp
                  with_reducible rfl
                rotate_left
                · simp only [Act.put, List.setIfInBounds_toArray, List.set_cons_zero, List.set_cons_succ, i64_w, i32_w]
                  rfl
                refine pure_ (i := 17) (N := some 42) (v := ?_) (a' := ?_) #[true, true, true, true, true, true, true, true, true, true, true, true, true, true, true, true, true, true, false, false, false, false] rfl rfl (zK HT_.out (by kernel_rfl)) (fun _ _ _ h => h) (Or.inl ⟨by rfl, ?_⟩) ?_ ?_
                rotate_left
                · intro w'
                  go_simp
                  with_reducible rfl
                rotate_left
                · simp only [Act.put, List.setIfInBounds_toArray, List.set_cons_zero, List.set_cons_succ, i64_w, i32_w]
                  rfl
                refine pure_ (i := 18) (N := some 43) (v := undef) (a' := ?_) #[true, true, true, true, true, true, true, true, true, true, true, true, true, true, true, true, true, true, true, false, false, false] rfl rfl (zK HT_.out (by kernel_rfl)) (fun _ _ _ h => h) (Or.inr ⟨by rfl, rfl⟩) ?_ ?_
                rotate_left
                · simp only [Act.put, List.setIfInBounds_toArray, List.set_cons_zero, List.set_cons_succ, i64_w, i32_w]
                  rfl
                refine pure_ (i := 19) (N := some 44) (v := undef) (a' := ?_) #[true, true, true, true, true, true, true, true, true, true, true, true, true, true, true, true, true, true, true, true, false, false] rfl rfl (zK HT_.out (by kernel_rfl)) (fun _ _ _ h => h) (Or.inr ⟨by rfl, rfl⟩) ?_ ?_
                rotate_left
                · simp only [Act.put, List.setIfInBounds_toArray, List.set_cons_zero, List.set_cons_succ, i64_w, i32_w]
                  rfl
                refine pure_ (i := 20) (N := some 45) (v := undef) (a' := ?_) #[true, true, true, true, true, true, true, true, true, true, true, true, true, true, true, true, true, true, true, true, true, false] rfl rfl (zK HT_.out (by kernel_rfl)) (fun _ _ _ h => h) (Or.inr ⟨by rfl, rfl⟩) ?_ ?_
                rotate_left
                · simp only [Act.put, List.setIfInBounds_toArray, List.set_cons_zero, List.set_cons_succ, i64_w, i32_w]
                  rfl
                refine pure_ (i := 21) (N := some 46) (v := ?_) (a' := ?_) #[true, true, true, true, true, true, true, true, true, true, true, true, true, true, true, true, true, true, true, true, true, true] rfl rfl (zK HT_.out (by kernel_rfl)) (fun _ _ _ h => h) (Or.inl ⟨by rfl, ?_⟩) ?_ ?_
                rotate_left
                · intro w'
                  go_simp
                  with_reducible rfl
                rotate_left
                · simp only [Act.put, List.setIfInBounds_toArray, List.set_cons_zero, List.set_cons_succ, i64_w, i32_w]
                  rfl
                refine done_ (done_of HT_.out (by kernel_rfl)) ?_
                try go_wp2
                go_meet
                case rel => exact ⟨_, (true), (by first | rfl | (simp; done) | (simp [*]; done)), H', ⟨by have := HJ2.out; first | omega | exact Nat.le_refl _⟩, ⟨by (with_reducible repeat (first | apply Kd.zW | apply Kd.zX | apply Kd.zS)); exact Kd.zU HO397.out (fun _ hk => hk.1)⟩, ⟨by (with_reducible repeat (first | apply Kd.qX | apply Kd.qV | apply Kd.qW)); exact Kd.qS HO400.out (fun _ hk => hk.1)⟩, ⟨Kd.Q_of_R (by (with_reducible repeat (first | apply Kd.qX | apply Kd.qV | apply Kd.qW)); exact Kd.qS HO406.out (fun _ hk => hk.1))⟩, ⟨by (with_reducible repeat (first | apply Kd.qX | apply Kd.qV | apply Kd.qW)); exact Kd.qS HO409.out (fun _ hk => hk.1)⟩, ⟨by (with_reducible repeat (first | refine qH ?_ _ | refine qI ?_ | refine qG ?_ _)); exact BK403.out⟩, ⟨by (with_reducible repeat (first | refine qH ?_ _ | refine qI ?_ | refine qG ?_ _)); exact BK412.out⟩, ⟨by repeat (first | (with_reducible first | exact HB.out | apply qF | apply qC | apply qE | refine qB ?_ GE403.out | refine qB ?_ GE412.out) | exact HB.out)⟩⟩
          · replace c22 := Bool.eq_false_iff.mpr c22
            subst c22
            have H1 : (none) = some true := by first | rfl | (rw [if_neg (show ¬ (false = true) by decide)] at H; exact H)
            clear H
            have H := H1
            clear H1
            exact absurd H (by simp)
        case rest =>
          clear HC8
          try clear c1
          try clear c2
          try clear p2
          try clear c13
          try clear c15
          try clear c22
          try clear c27
          try clear c29
          obtain ⟨kq, x46_7, rfl, HA, HJ7, HO_404000, HO_404001, HO_413000, HO_413001, BK403, BK412, HB⟩ := hcut
          cases kq with
          | zero => exact absurd HA.out (by simp [laws_FnDiskSync.j1])
          | succ kj7 =>
            have H := HA.out
            clear HA
            simp only [laws_FnDiskSync.j1] at H
            by_cases c46 : x46_7 = true
            · subst c46
              have H1 : ((spec_DiskSync.f kj7 t395 t398 t401 t402).bind fun bt425 => ((laws_jtDisk.f kj7 t404 t407 t410 t411 bt425.1 bt425.2.1 bt425.2.2.1 bt425.2.2.2).bind fun t433 => (if t433 = true then ((impl_DiskOk.f t395 t398 t401 t402).bind fun t434 => ((spec_DiskOk.f kj7 t395 t398 t401 t402).bind fun t435 => (some (t434 == t435)))) else (none)))) = some true := by first | rfl | (rw [if_pos rfl] at H; exact H)
              clear H
              have H := H1
              clear H1
              replace H := Option.bind_eq_some_iff.mp H
              obtain ⟨⟨t425, t428, t431, t432⟩, A470, H⟩ := H
              replace H : ((laws_jtDisk.f kj7 t404 t407 t410 t411 t425 t428 t431 t432).bind fun t433 => (if t433 = true then ((impl_DiskOk.f t395 t398 t401 t402).bind fun t434 => ((spec_DiskOk.f kj7 t395 t398 t401 t402).bind fun t435 => (some (t434 == t435)))) else (none))) = some true := H
              have A47 := Aside0.mk A470
              clear A470
              replace H := Option.bind_eq_some_iff.mp H
              obtain ⟨t433, A480, H⟩ := H
              replace H : (if t433 = true then ((impl_DiskOk.f t395 t398 t401 t402).bind fun t434 => ((spec_DiskOk.f kj7 t395 t398 t401 t402).bind fun t435 => (some (t434 == t435)))) else (none)) = some true := H
              have A48 := Aside0.mk A480
              clear A480
              by_cases c49 : t433 = true
              · subst c49
                have H1 : ((impl_DiskOk.f t395 t398 t401 t402).bind fun t434 => ((spec_DiskOk.f kj7 t395 t398 t401 t402).bind fun t435 => (some (t434 == t435)))) = some true := by first | rfl | (rw [if_pos rfl] at H; exact H)
                clear H
                have H := H1
                clear H1
                replace H := Option.bind_eq_some_iff.mp H
                obtain ⟨t434, A500, H⟩ := H
                replace H : ((spec_DiskOk.f kj7 t395 t398 t401 t402).bind fun t435 => (some (t434 == t435))) = some true := H
                have A50 := Aside0.mk A500
                clear A500
                replace H := Option.bind_eq_some_iff.mp H
                obtain ⟨t435, A510, H⟩ := H
                replace H : (some (t434 == t435)) = some true := H
                have A51 := Aside0.mk A510
                clear A510
                have HT_ : (t434 == t435) = true := Option.some.inj H
                clear H
                try go_wp2
                have n0_ := Aside0.mk (Kd.zS HO_404000.out)
                have n1_ := Aside0.mk (Kd.qW HO_404001.out)
                have n2_ := Aside0.mk (Kd.zS HO_413000.out)
                have n3_ := Aside0.mk (Kd.qW HO_413001.out)
                have n4_ := Aside0.mk (qI BK403.out)
                have n5_ := Aside0.mk (qI BK412.out)
                have n6_ := Aside0.mk (qE HB.out)
                clear HO_404000
                clear HO_404001
                clear HO_413000
                clear HO_413001
                clear BK403
                clear BK412
                clear HB
                have HO_404000 := n0_
                have HO_404001 := n1_
                have HO_413000 := n2_
                have HO_413001 := n3_
                have BK403 := n4_
                have BK412 := n5_
                have HB := n6_
                clear n0_ n1_ n2_ n3_ n4_ n5_ n6_
                refine start_ (n := 12) (S := fun w' => w'.cell? ⟨gb412, 0, none⟩ = some (.slice Ao16 t404.length co16) ∧ w'.cell? ⟨gb412, 1, none⟩ = some (.slice Ao19 t407.length co19) ∧ w'.cell? ⟨gb412, 2, none⟩ = some (.int .i64 t410) ∧ w'.cell? ⟨gb412, 3, none⟩ = some (.int .i64 t411) ∧ w'.cell? ⟨gb403, 0, none⟩ = some (.slice Ao11 t395.length co11) ∧ w'.cell? ⟨gb403, 1, none⟩ = some (.slice Ao13 t398.length co13) ∧ w'.cell? ⟨gb403, 2, none⟩ = some (.int .i64 t401) ∧ w'.cell? ⟨gb403, 3, none⟩ = some (.int .i64 t402)) (ds := []) #[false, false, false, false, false, false, false, false, false, false, false, false] (by kernel_rfl) rfl rfl ⟨(qA BK412.out 0).trans rfl, (qA BK412.out 1).trans rfl, (qA BK412.out 2).trans rfl, (qA BK412.out 3).trans rfl, (qA BK403.out 0).trans rfl, (qA BK403.out 1).trans rfl, (qA BK403.out 2).trans rfl, (qA BK403.out 3).trans rfl⟩ (fun hHeld => ?_); refine with_tabW laws_FnDiskSync.tab6 laws_FnDiskSync.bits6 (fun HT_ HW_ => ?_)
                generalize wc.drew = w52 at HO_404000 HO_404001 HO_413000 HO_413001 BK403 BK412 HB hHeld ⊢
                refine take_ (i := 0) (N := some 47) (v := ?_) (a' := ?_) #[true, false, false, false, false, false, false, false, false, false, false, false] rfl rfl (zN HT_.out HW_.out (by kernel_rfl)) (fun _ _ _ h => h) (Or.inl ⟨by rfl, ?_⟩) hHeld ?_ ?_
                rotate_left
                · rintro w' ⟨s0, s1, s2, s3, s4, s5, s6, s7⟩
                  go_simp
                  with_reducible rfl
                rotate_left
                · simp only [Act.put, List.setIfInBounds_toArray, List.set_cons_zero, List.set_cons_succ, i64_w, i32_w]
                  rfl
                refine take_ (i := 1) (N := some 48) (v := ?_) (a' := ?_) #[true, true, false, false, false, false, false, false, false, false, false, false] rfl rfl (zN HT_.out HW_.out (by kernel_rfl)) (fun _ _ _ h => h) (Or.inl ⟨by rfl, ?_⟩) hHeld ?_ ?_
                rotate_left
                · rintro w' ⟨s0, s1, s2, s3, s4, s5, s6, s7⟩
                  go_simp
                  with_reducible rfl
                rotate_left
                · simp only [Act.put, List.setIfInBounds_toArray, List.set_cons_zero, List.set_cons_succ, i64_w, i32_w]
                  rfl
                refine one_ (i := 2) (N := some 49) #[true, true, true, false, false, false, false, false, false, false, false, false] rfl rfl (zR HT_.out (by kernel_rfl)) (by decide) (fun K hK => ?_)
                refine goes_ Try.func29 (by kernel_rfl) rfl #[.agg #[.slice Ao11 t395.length co11, .slice Ao13 t398.length co13, .int .i64 t401, .int .i64 t402]] (by rfl) rfl rfl (by (try simp only [List.map_toArray, List.map_cons, List.map_nil]); first | done | rfl | (simp only [List.length_drop, List.length_take]; rfl)) ?_
                with_reducible refine (spec_DiskSync.calls kj7 _ _ t395 _ _ t398 t401 t402 t425 t428 t431 t432 _ ?side1 ?side2 ?side3 ?side4 A47.out).mono ?_
                (case side1 => repeat (first | exact (Kd.zO HO_404000.out).2.2 | (with_reducible refine Kd.zC ?_ _) | (with_reducible refine Kd.zD ?_ _) | (with_reducible refine Kd.zH ?_)))
                (case side2 => exact (Kd.zO HO_404000.out).2.1)
                (case side3 => repeat (first | exact (Kd.zA HO_404001.out).2.2 | (with_reducible refine Kd.zC ?_ _) | (with_reducible refine Kd.zD ?_ _) | (with_reducible refine Kd.zH ?_)))
                (case side4 => exact (Kd.zA HO_404001.out).2.1)
                rintro e w53 ⟨v426, v429, rfl, ho0, ho1, hb⟩
                refine ⟨_, rfl, ?_⟩
                have n0_ := Aside0.mk (Kd.Q_elder' (qw_ HO_404000.out) (Kd.zY ho0) hb)
                have n1_ := Aside0.mk (Kd.zV (rw_ HO_404001.out) (Kd.zY ho1) hb)
                have n2_ := Aside0.mk (Kd.Q_elder' (qw_ HO_413000.out) (Kd.zY ho0) hb)
                have n3_ := Aside0.mk (Kd.zV (rw_ HO_413001.out) (Kd.zY ho1) hb)
                have n4_ := Aside0.mk (Kd.zJ (Kd.zZ (Kd.zZ ho0 (Kd.Q_lt (qw_ HO_404000.out))) (Kd.Q_lt (qw_ HO_413000.out))) (qM (by repeat (first | (with_reducible first | exact HB.out | apply qF | apply qC | apply qE | refine qB ?_ GE403.out | refine qB ?_ GE412.out) | exact HB.out))))
                have n5_ := Aside0.mk (Kd.zJ (Kd.zZ (Kd.zZ ho1 (Kd.R_lt (rw_ HO_404001.out))) (Kd.R_lt (rw_ HO_413001.out))) (qM (by repeat (first | (with_reducible first | exact HB.out | apply qF | apply qC | apply qE | refine qB ?_ GE403.out | refine qB ?_ GE412.out) | exact HB.out))))
                have n6_ := Aside0.mk (qJ (g := gb403) (o := .cells #[.slice Ao11 t395.length co11, .slice Ao13 t398.length co13, .int .i64 t401, .int .i64 t402] 26 (0, 0)) (bw_ BK403.out) hb)
                have n7_ := Aside0.mk (qJ (g := gb412) (o := .cells #[.slice Ao16 t404.length co16, .slice Ao19 t407.length co19, .int .i64 t410, .int .i64 t411] 26 (0, 0)) (bw_ BK412.out) hb)
                have n8_ := Aside0.mk (qN (by repeat (first | (with_reducible first | exact HB.out | apply qF | apply qC | apply qE | refine qB ?_ GE403.out | refine qB ?_ GE412.out) | exact HB.out)) hb)
                clear HO_404000
                clear HO_404001
                clear HO_413000
                clear HO_413001
                clear BK403
                clear BK412
                clear HB
                have HO_404000 := n0_
                have HO_404001 := n1_
                have HO_413000 := n2_
                have HO_413001 := n3_
                have HO427 := n4_
                have HO430 := n5_
                have BK403 := n6_
                have BK412 := n7_
                have HB := n8_
                clear n0_ n1_ n2_ n3_ n4_ n5_ n6_ n7_ n8_
                (try clear hb)
                (try clear hb2)
                (try clear hk)
                (try clear hi)
                (try clear ho0)
                (try clear ho1)
                obtain ⟨Ao54, co54, eo54⟩ := Kd.zG HO427.out
                (first | subst eo54 | (injection eo54 with f1_ f2_ f3_; have f4_ := f1_.symm; have f5_ := f3_.symm; clear f1_ f2_ f3_; subst f4_; subst f5_))
                obtain ⟨Ao55, co55, eo55⟩ := Kd.zG HO430.out
                (first | subst eo55 | (injection eo55 with f1_ f2_ f3_; have f4_ := f1_.symm; have f5_ := f3_.symm; clear f1_ f2_ f3_; subst f4_; subst f5_))
                refine hK.out _ _ ⟨(qA BK412.out 0).trans rfl, (qA BK412.out 1).trans rfl, (qA BK412.out 2).trans rfl, (qA BK412.out 3).trans rfl, (qA BK403.out 0).trans rfl, (qA BK403.out 1).trans rfl, (qA BK403.out 2).trans rfl, (qA BK403.out 3).trans rfl⟩ (fun hHeld => ?_)
                clear hK K
                refine norm_ (a' := ?_) ?_ ?_
                rotate_left
                · show Act.put _ (some 49) _ = _
                  simp only [Act.put, List.setIfInBounds_toArray, List.set_cons_zero, List.set_cons_succ, i64_w, i32_w]
                  rfl
                refine one_ (i := 3) (N := some 50) #[true, true, true, true, false, false, false, false, false, false, false, false] rfl rfl (zR HT_.out (by kernel_rfl)) (by decide) (fun K hK => ?_)
                refine goes_ Try.func13 (by kernel_rfl) rfl #[.agg #[.slice Ao16 t404.length co16, .slice Ao19 t407.length co19, .int .i64 t410, .int .i64 t411], .agg #[.slice Ao54 t425.length co54, .slice Ao55 t428.length co55, .int .i64 t431, .int .i64 t432]] (by rfl) rfl rfl (by (try simp only [List.map_toArray, List.map_cons, List.map_nil]); first | done | rfl | (simp only [List.length_drop, List.length_take]; rfl)) ?_
                with_reducible refine (laws_jtDisk.calls kj7 _ _ t404 _ _ t407 t410 t411 _ _ t425 _ _ t428 t431 t432 true _ ?side1 ?side2 ?side3 ?side4 ?side5 ?side6 ?side7 ?side8 A48.out).mono ?_
                (case side1 => repeat (first | exact (Kd.zO HO_413000.out).2.2 | (with_reducible refine Kd.zC ?_ _) | (with_reducible refine Kd.zD ?_ _) | (with_reducible refine Kd.zH ?_)))
                (case side2 => exact (Kd.zO HO_413000.out).2.1)
                (case side3 => repeat (first | exact (Kd.zA HO_413001.out).2.2 | (with_reducible refine Kd.zC ?_ _) | (with_reducible refine Kd.zD ?_ _) | (with_reducible refine Kd.zH ?_)))
                (case side4 => exact (Kd.zA HO_413001.out).2.1)
                (case side5 => repeat (first | exact (Kd.zA HO427.out).2.2 | (with_reducible refine Kd.zC ?_ _) | (with_reducible refine Kd.zD ?_ _) | (with_reducible refine Kd.zH ?_)))
                (case side6 => exact (Kd.zA HO427.out).2.1)
                (case side7 => repeat (first | exact (Kd.zA HO430.out).2.2 | (with_reducible refine Kd.zC ?_ _) | (with_reducible refine Kd.zD ?_ _) | (with_reducible refine Kd.zH ?_)))
                (case side8 => exact (Kd.zA HO430.out).2.1)
                rintro e w56 ⟨rfl, hb⟩
                refine ⟨_, rfl, ?_⟩
                have n0_ := Aside0.mk (Kd.zP (qw_ HO_404000.out) hb)
                have n1_ := Aside0.mk (Kd.qU (rw_ HO_404001.out) hb)
                have n2_ := Aside0.mk (Kd.zP (qw_ HO_413000.out) hb)
                have n3_ := Aside0.mk (Kd.qU (rw_ HO_413001.out) hb)
                have n4_ := Aside0.mk (Kd.qU (rw_ HO427.out) hb)
                have n5_ := Aside0.mk (Kd.qU (rw_ HO430.out) hb)
                have n6_ := Aside0.mk (qJ (g := gb403) (o := .cells #[.slice Ao11 t395.length co11, .slice Ao13 t398.length co13, .int .i64 t401, .int .i64 t402] 26 (0, 0)) (bw_ BK403.out) hb)
                have n7_ := Aside0.mk (qJ (g := gb412) (o := .cells #[.slice Ao16 t404.length co16, .slice Ao19 t407.length co19, .int .i64 t410, .int .i64 t411] 26 (0, 0)) (bw_ BK412.out) hb)
                have n8_ := Aside0.mk (qN (by repeat (first | (with_reducible first | exact HB.out | apply qF | apply qC | apply qE | refine qB ?_ GE403.out | refine qB ?_ GE412.out) | exact HB.out)) hb)
                clear HO_404000
                clear HO_404001
                clear HO_413000
                clear HO_413001
                clear HO427
                clear HO430
                clear BK403
                clear BK412
                clear HB
                have HO_404000 := n0_
                have HO_404001 := n1_
                have HO_413000 := n2_
                have HO_413001 := n3_
                have HO427 := n4_
                have HO430 := n5_
                have BK403 := n6_
                have BK412 := n7_
                have HB := n8_
                clear n0_ n1_ n2_ n3_ n4_ n5_ n6_ n7_ n8_
                (try clear hb)
                (try clear hb2)
                (try clear hk)
                (try clear hi)
                refine hK.out _ _ ⟨(qA BK412.out 0).trans rfl, (qA BK412.out 1).trans rfl, (qA BK412.out 2).trans rfl, (qA BK412.out 3).trans rfl, (qA BK403.out 0).trans rfl, (qA BK403.out 1).trans rfl, (qA BK403.out 2).trans rfl, (qA BK403.out 3).trans rfl⟩ (fun hHeld => ?_)
                clear hK K
                refine norm_ (a' := ?_) ?_ ?_
                rotate_left
                · show Act.put _ (some 50) _ = _
                  simp only [Act.put, List.setIfInBounds_toArray, List.set_cons_zero, List.set_cons_succ, i64_w, i32_w]
                  rfl
                refine pure_ (i := 4) (N := some 51) (v := ?_) (a' := ?_) #[true, true, true, true, true, false, false, false, false, false, false, false] rfl rfl (zK HT_.out (by kernel_rfl)) (fun _ _ _ h => h) (Or.inl ⟨by rfl, ?_⟩) ?_ ?_
                rotate_left
                · intro w'
                  go_simp
                  with_reducible rfl
                rotate_left
                · simp only [Act.put, List.setIfInBounds_toArray, List.set_cons_zero, List.set_cons_succ, i64_w, i32_w]
                  rfl
                refine take_ (i := 5) (N := some 52) (v := ?_) (a' := ?_) #[true, true, true, true, true, true, false, false, false, false, false, false] rfl rfl (zN HT_.out HW_.out (by kernel_rfl)) (fun _ _ _ h => h) (Or.inl ⟨by rfl, ?_⟩) hHeld ?_ ?_
                rotate_left
                · rintro w' ⟨s0, s1, s2, s3, s4, s5, s6, s7⟩
                  go_simp
                  with_reducible rfl
                rotate_left
                · simp only [Act.put, List.setIfInBounds_toArray, List.set_cons_zero, List.set_cons_succ, i64_w, i32_w]
                  rfl
                refine take_ (i := 7) (N := some 54) (v := ?_) (a' := ?_) #[true, true, true, true, true, true, false, true, false, false, false, false] rfl rfl (zN HT_.out HW_.out (by kernel_rfl)) (fun _ _ _ h => h) (Or.inl ⟨by rfl, ?_⟩) hHeld ?_ ?_
                rotate_left
                · rintro w' ⟨s0, s1, s2, s3, s4, s5, s6, s7⟩
                  go_simp
                  with_reducible rfl
                rotate_left
                · simp only [Act.put, List.setIfInBounds_toArray, List.set_cons_zero, List.set_cons_succ, i64_w, i32_w]
                  rfl
                refine one_ (i := 6) (N := some 53) #[true, true, true, true, true, true, true, true, false, false, false, false] rfl rfl (zR HT_.out (by kernel_rfl)) (by decide) (fun K hK => ?_)
                refine goes_ Try.func22 (by kernel_rfl) rfl #[.agg #[.slice Ao11 t395.length co11, .slice Ao13 t398.length co13, .int .i64 t401, .int .i64 t402]] (by rfl) rfl rfl (by (try simp only [List.map_toArray, List.map_cons, List.map_nil]); first | done | rfl | (simp only [List.length_drop, List.length_take]; rfl)) ?_
                with_reducible refine (impl_DiskOk.calls _ _ t395 _ _ t398 t401 t402 t434 _ ?side1 ?side2 ?side3 ?side4 A50.out).mono ?_
                (case side1 => repeat (first | exact (Kd.zO HO_404000.out).2.2 | (with_reducible refine Kd.zC ?_ _) | (with_reducible refine Kd.zD ?_ _) | (with_reducible refine Kd.zH ?_)))
                (case side2 => exact (Kd.zO HO_404000.out).2.1)
                (case side3 => repeat (first | exact (Kd.zA HO_404001.out).2.2 | (with_reducible refine Kd.zC ?_ _) | (with_reducible refine Kd.zD ?_ _) | (with_reducible refine Kd.zH ?_)))
                (case side4 => exact (Kd.zA HO_404001.out).2.1)
                rintro e w57 ⟨rfl, hb⟩
                refine ⟨_, rfl, ?_⟩
                have n0_ := Aside0.mk (Kd.zP (qw_ HO_404000.out) hb)
                have n1_ := Aside0.mk (Kd.qU (rw_ HO_404001.out) hb)
                have n2_ := Aside0.mk (Kd.zP (qw_ HO_413000.out) hb)
                have n3_ := Aside0.mk (Kd.qU (rw_ HO_413001.out) hb)
                have n4_ := Aside0.mk (Kd.qU (rw_ HO427.out) hb)
                have n5_ := Aside0.mk (Kd.qU (rw_ HO430.out) hb)
                have n6_ := Aside0.mk (qJ (g := gb403) (o := .cells #[.slice Ao11 t395.length co11, .slice Ao13 t398.length co13, .int .i64 t401, .int .i64 t402] 26 (0, 0)) (bw_ BK403.out) hb)
                have n7_ := Aside0.mk (qJ (g := gb412) (o := .cells #[.slice Ao16 t404.length co16, .slice Ao19 t407.length co19, .int .i64 t410, .int .i64 t411] 26 (0, 0)) (bw_ BK412.out) hb)
                have n8_ := Aside0.mk (qN (by repeat (first | (with_reducible first | exact HB.out | apply qF | apply qC | apply qE | refine qB ?_ GE403.out | refine qB ?_ GE412.out) | exact HB.out)) hb)
                clear HO_404000
                clear HO_404001
                clear HO_413000
                clear HO_413001
                clear HO427
                clear HO430
                clear BK403
                clear BK412
                clear HB
                have HO_404000 := n0_
                have HO_404001 := n1_
                have HO_413000 := n2_
                have HO_413001 := n3_
                have HO427 := n4_
                have HO430 := n5_
                have BK403 := n6_
                have BK412 := n7_
                have HB := n8_
                clear n0_ n1_ n2_ n3_ n4_ n5_ n6_ n7_ n8_
                (try clear hb)
                (try clear hb2)
                (try clear hk)
                (try clear hi)
                refine hK.out _ _ ⟨(qA BK412.out 0).trans rfl, (qA BK412.out 1).trans rfl, (qA BK412.out 2).trans rfl, (qA BK412.out 3).trans rfl, (qA BK403.out 0).trans rfl, (qA BK403.out 1).trans rfl, (qA BK403.out 2).trans rfl, (qA BK403.out 3).trans rfl⟩ (fun hHeld => ?_)
                clear hK K
                refine norm_ (a' := ?_) ?_ ?_
                rotate_left
                · show Act.put _ (some 53) _ = _
                  simp only [Act.put, List.setIfInBounds_toArray, List.set_cons_zero, List.set_cons_succ, i64_w, i32_w]
                  rfl
                refine one_ (i := 8) (N := some 55) #[true, true, true, true, true, true, true, true, true, false, false, false] rfl rfl (zR HT_.out (by kernel_rfl)) (by decide) (fun K hK => ?_)
                refine goes_ Try.func15 (by kernel_rfl) rfl #[.agg #[.slice Ao11 t395.length co11, .slice Ao13 t398.length co13, .int .i64 t401, .int .i64 t402]] (by rfl) rfl rfl (by (try simp only [List.map_toArray, List.map_cons, List.map_nil]); first | done | rfl | (simp only [List.length_drop, List.length_take]; rfl)) ?_
                with_reducible refine (spec_DiskOk.calls kj7 _ _ t395 _ _ t398 t401 t402 t435 _ ?side1 ?side2 ?side3 ?side4 A51.out).mono ?_
                (case side1 => repeat (first | exact (Kd.zO HO_404000.out).2.2 | (with_reducible refine Kd.zC ?_ _) | (with_reducible refine Kd.zD ?_ _) | (with_reducible refine Kd.zH ?_)))
                (case side2 => exact (Kd.zO HO_404000.out).2.1)
                (case side3 => repeat (first | exact (Kd.zA HO_404001.out).2.2 | (with_reducible refine Kd.zC ?_ _) | (with_reducible refine Kd.zD ?_ _) | (with_reducible refine Kd.zH ?_)))
                (case side4 => exact (Kd.zA HO_404001.out).2.1)
                rintro e w58 ⟨rfl, hb⟩
                refine ⟨_, rfl, ?_⟩
                have n0_ := Aside0.mk (Kd.zP (qw_ HO_404000.out) hb)
                have n1_ := Aside0.mk (Kd.qU (rw_ HO_404001.out) hb)
                have n2_ := Aside0.mk (Kd.zP (qw_ HO_413000.out) hb)
                have n3_ := Aside0.mk (Kd.qU (rw_ HO_413001.out) hb)
                have n4_ := Aside0.mk (Kd.qU (rw_ HO427.out) hb)
                have n5_ := Aside0.mk (Kd.qU (rw_ HO430.out) hb)
                have n6_ := Aside0.mk (qJ (g := gb403) (o := .cells #[.slice Ao11 t395.length co11, .slice Ao13 t398.length co13, .int .i64 t401, .int .i64 t402] 26 (0, 0)) (bw_ BK403.out) hb)
                have n7_ := Aside0.mk (qJ (g := gb412) (o := .cells #[.slice Ao16 t404.length co16, .slice Ao19 t407.length co19, .int .i64 t410, .int .i64 t411] 26 (0, 0)) (bw_ BK412.out) hb)
                have n8_ := Aside0.mk (qN (by repeat (first | (with_reducible first | exact HB.out | apply qF | apply qC | apply qE | refine qB ?_ GE403.out | refine qB ?_ GE412.out) | exact HB.out)) hb)
                clear HO_404000
                clear HO_404001
                clear HO_413000
                clear HO_413001
                clear HO427
                clear HO430
                clear BK403
                clear BK412
                clear HB
                have HO_404000 := n0_
                have HO_404001 := n1_
                have HO_413000 := n2_
                have HO_413001 := n3_
                have HO427 := n4_
                have HO430 := n5_
                have BK403 := n6_
                have BK412 := n7_
                have HB := n8_
                clear n0_ n1_ n2_ n3_ n4_ n5_ n6_ n7_ n8_
                (try clear hb)
                (try clear hb2)
                (try clear hk)
                (try clear hi)
                refine hK.out _ _ ⟨(qA BK412.out 0).trans rfl, (qA BK412.out 1).trans rfl, (qA BK412.out 2).trans rfl, (qA BK412.out 3).trans rfl, (qA BK403.out 0).trans rfl, (qA BK403.out 1).trans rfl, (qA BK403.out 2).trans rfl, (qA BK403.out 3).trans rfl⟩ (fun hHeld => ?_)
                clear hK K
                refine norm_ (a' := ?_) ?_ ?_
                rotate_left
                · show Act.put _ (some 55) _ = _
                  simp only [Act.put, List.setIfInBounds_toArray, List.set_cons_zero, List.set_cons_succ, i64_w, i32_w]
                  rfl
                refine pure_ (i := 9) (N := some 56) (v := ?_) (a' := ?_) #[true, true, true, true, true, true, true, true, true, true, false, false] rfl rfl (zK HT_.out (by kernel_rfl)) (fun _ _ _ h => h) (Or.inl ⟨by rfl, ?_⟩) ?_ ?_
                rotate_left
                · intro w'
                  go_simp
                  with_reducible rfl
                rotate_left
                · simp only [Act.put, List.setIfInBounds_toArray, List.set_cons_zero, List.set_cons_succ, i64_w, i32_w]
                  rfl
                refine pure_ (i := 10) (N := some 57) (v := ?_) (a' := ?_) #[true, true, true, true, true, true, true, true, true, true, true, false] rfl rfl (zK HT_.out (by kernel_rfl)) (fun _ _ _ h => h) (Or.inl ⟨by rfl, ?_⟩) ?_ ?_
                rotate_left
                · intro w'
                  go_simp
                  with_reducible rfl
                rotate_left
                · simp only [Act.put, List.setIfInBounds_toArray, List.set_cons_zero, List.set_cons_succ, i64_w, i32_w]
                  rfl
                refine pure_ (i := 11) (N := some 4) (v := ?_) (a' := ?_) #[true, true, true, true, true, true, true, true, true, true, true, true] rfl rfl (zK HT_.out (by kernel_rfl)) (fun _ _ _ h => h) (Or.inl ⟨by rfl, ?_⟩) ?_ ?_
                rotate_left
                · intro w'
                  go_simp
                  with_reducible rfl
                rotate_left
                · simp only [Act.put, List.setIfInBounds_toArray, List.set_cons_zero, List.set_cons_succ, i64_w, i32_w]
                  rfl
                refine done_ (done_of HT_.out (by kernel_rfl)) ?_
                try go_wp2
                go_ret
                exact ⟨by first | rfl | (simp [errW_none, errW_some] <;> rfl) | (simp [*, errW_none, errW_some] <;> rfl), by repeat (first | (with_reducible first | exact HB.out | apply qF | apply qC | apply qE | refine qB ?_ GE403.out | refine qB ?_ GE412.out) | exact HB.out)⟩
              · replace c49 := Bool.eq_false_iff.mpr c49
                subst c49
                have H1 : (none) = some true := by first | rfl | (rw [if_neg (show ¬ (false = true) by decide)] at H; exact H)
                clear H
                have H := H1
                clear H1
                exact absurd H (by simp)
            · replace c46 := Bool.eq_false_iff.mpr c46
              subst c46
              have H1 : ((spec_DrawDiskCrash.f kj7 l1).bind fun bt436 => (if bt436.2.2.2.2.1 < 0 then (laws_FnDiskSync.j2 kj7 0 bt436.2.2.2.2.2.1 bt436.2.2.2.2.2.2 t395 t398 t401 t402 t404 t407 t410 t411) else (laws_FnDiskSync.j2 kj7 bt436.2.2.2.2.1 bt436.2.2.2.2.2.1 bt436.2.2.2.2.2.2 t395 t398 t401 t402 t404 t407 t410 t411))) = some true := by first | rfl | (rw [if_neg (show ¬ (false = true) by decide)] at H; exact H)
              clear H
              have H := H1
              clear H1
              replace H := Option.bind_eq_some_iff.mp H
              obtain ⟨⟨t436, t439, t442, t443, t444, t445, t446⟩, A590, H⟩ := H
              replace H : (if t444 < 0 then (laws_FnDiskSync.j2 kj7 0 t445 t446 t395 t398 t401 t402 t404 t407 t410 t411) else (laws_FnDiskSync.j2 kj7 t444 t445 t446 t395 t398 t401 t402 t404 t407 t410 t411)) = some true := H
              have A59 := Aside0.mk A590
              clear A590
              have HC60 := Aside0.mk H
              clear H
              go_upto_if 66 with (first | ((with_reducible refine qT (f := 30) rfl ?_); refine zL (some 60) rfl rfl Try.func30 (by kernel_rfl) rfl #[.slice A1 l1.length c1] rfl (by (try simp only [List.map_toArray, List.map_cons, List.map_nil]); first | done | rfl | (simp only [List.length_drop, List.length_take]; rfl)) ?_; (with_reducible refine (spec_DrawDiskCrash.calls kj7 _ _ l1 t436 t439 t442 t443 t444 t445 t446 _ ?side1 ?side2 A59.out).mono ?_); (case side1 => repeat (first | exact (Kd.zI HR1.out HB.out) | (with_reducible refine Kd.zC ?_ _) | (with_reducible refine Kd.zD ?_ _) | (with_reducible refine Kd.zH ?_))); (case side2 => exact HC1.out); rintro e w61 ⟨v437, v440, rfl, ho0, ho1, hb⟩; refine ⟨_, rfl, ?_⟩; have n0_ := Aside0.mk (Kd.Q_elder' (qw_ HO_404000.out) (Kd.Q_base ho0) hb); have n1_ := Aside0.mk (Kd.zV (rw_ HO_404001.out) (Kd.zY ho1) hb); have n2_ := Aside0.mk (Kd.Q_elder' (qw_ HO_413000.out) (Kd.Q_base ho0) hb); have n3_ := Aside0.mk (Kd.zV (rw_ HO_413001.out) (Kd.zY ho1) hb); have n4_ := Aside0.mk (Kd.Q_lower (Kd.Q_new' (Kd.Q_new' ho0 (Kd.Q_lt (qw_ HO_404000.out))) (Kd.Q_lt (qw_ HO_413000.out))) (qM (by repeat (first | (with_reducible first | exact HB.out | apply qF | apply qC | apply qE | refine qB ?_ GE403.out | refine qB ?_ GE412.out) | exact HB.out)))); have n5_ := Aside0.mk (Kd.zJ (Kd.zZ (Kd.zZ ho1 (Kd.R_lt (rw_ HO_404001.out))) (Kd.R_lt (rw_ HO_413001.out))) (qM (by repeat (first | (with_reducible first | exact HB.out | apply qF | apply qC | apply qE | refine qB ?_ GE403.out | refine qB ?_ GE412.out) | exact HB.out)))); have n6_ := Aside0.mk (qJ (g := gb403) (o := .cells #[.slice Ao11 t395.length co11, .slice Ao13 t398.length co13, .int .i64 t401, .int .i64 t402] 26 (0, 0)) (bw_ BK403.out) hb); have n7_ := Aside0.mk (qJ (g := gb412) (o := .cells #[.slice Ao16 t404.length co16, .slice Ao19 t407.length co19, .int .i64 t410, .int .i64 t411] 26 (0, 0)) (bw_ BK412.out) hb); have n8_ := Aside0.mk (qN (by repeat (first | (with_reducible first | exact HB.out | apply qF | apply qC | apply qE | refine qB ?_ GE403.out | refine qB ?_ GE412.out) | exact HB.out)) hb); clear HO_404000; clear HO_404001; clear HO_413000; clear HO_413001; clear BK403; clear BK412; clear HB; have HO_404000 := n0_; have HO_404001 := n1_; have HO_413000 := n2_; have HO_413001 := n3_; have HO438 := n4_; have HO441 := n5_; have BK403 := n6_; have BK412 := n7_; have HB := n8_; clear n0_ n1_ n2_ n3_ n4_ n5_ n6_ n7_ n8_; (try clear hb); (try clear hb2); (try clear hk); (try clear hi); (try clear ho0); (try clear ho1)) | ((with_reducible refine zB (N := 7) rfl ?_); refine qZ ?hg (N := 7) ?hd (cs := #[.slice none 0 0, .slice none 0 0, .int .i64 0, .int .i64 0]) (t := 26) ?hr ?_; (case hd => rfl); (case hg => rfl); (case hr => first | (go_simp; done) | (go_simp; rfl)); intro gb447 hg w62 hbox hb; have n0_ := Aside0.mk (Kd.zP (qw_ HO_404000.out) hb); have n1_ := Aside0.mk (Kd.qU (rw_ HO_404001.out) hb); have n2_ := Aside0.mk (Kd.zP (qw_ HO_413000.out) hb); have n3_ := Aside0.mk (Kd.qU (rw_ HO_413001.out) hb); have n4_ := Aside0.mk (Kd.zP (qw_ HO438.out) hb); have n5_ := Aside0.mk (Kd.qU (rw_ HO441.out) hb); have n6_ := Aside0.mk (qJ (g := gb403) (o := .cells #[.slice Ao11 t395.length co11, .slice Ao13 t398.length co13, .int .i64 t401, .int .i64 t402] 26 (0, 0)) (bw_ BK403.out) hb); have n7_ := Aside0.mk (qJ (g := gb412) (o := .cells #[.slice Ao16 t404.length co16, .slice Ao19 t407.length co19, .int .i64 t410, .int .i64 t411] 26 (0, 0)) (bw_ BK412.out) hb); have n8_ := Aside0.mk (qN (by repeat (first | (with_reducible first | exact HB.out | apply qF | apply qC | apply qE | refine qB ?_ GE403.out | refine qB ?_ GE412.out) | exact HB.out)) hb); have n9_ := Aside0.mk (hbox); have n10_ := Aside0.mk ((by rw [hg]; exact (qM (by repeat (first | (with_reducible first | exact HB.out | apply qF | apply qC | apply qE | refine qB ?_ GE403.out | refine qB ?_ GE412.out) | exact HB.out))) : w.heap.size ≤ gb447)); have n11_ := Aside0.mk ((by rw [hg]; exact (qM (by repeat (first | (with_reducible first | exact HB.out | apply qF | apply qC | apply qE | refine qB ?_ GE403.out | refine qB ?_ GE412.out) | exact HB.out))) : w.heap.size ≤ gb447)); have n12_ := Aside0.mk ((by rw [hg]; exact Nat.ne_of_lt (zE (g := gb403) (o := .cells #[.slice Ao11 t395.length co11, .slice Ao13 t398.length co13, .int .i64 t401, .int .i64 t402] 26 (0, 0)) (bw_ BK403.out)) : gb403 ≠ gb447)); have n13_ := Aside0.mk ((by rw [hg]; exact Nat.ne_of_gt (zE (g := gb403) (o := .cells #[.slice Ao11 t395.length co11, .slice Ao13 t398.length co13, .int .i64 t401, .int .i64 t402] 26 (0, 0)) (bw_ BK403.out)) : gb447 ≠ gb403)); have n14_ := Aside0.mk ((by rw [hg]; exact Nat.ne_of_lt (zE (g := gb412) (o := .cells #[.slice Ao16 t404.length co16, .slice Ao19 t407.length co19, .int .i64 t410, .int .i64 t411] 26 (0, 0)) (bw_ BK412.out)) : gb412 ≠ gb447)); have n15_ := Aside0.mk ((by rw [hg]; exact Nat.ne_of_gt (zE (g := gb412) (o := .cells #[.slice Ao16 t404.length co16, .slice Ao19 t407.length co19, .int .i64 t410, .int .i64 t411] 26 (0, 0)) (bw_ BK412.out)) : gb447 ≠ gb412)); clear HO_404000; clear HO_404001; clear HO_413000; clear HO_413001; clear HO438; clear HO441; clear BK403; clear BK412; clear HB; have HO_404000 := n0_; have HO_404001 := n1_; have HO_413000 := n2_; have HO_413001 := n3_; have HO438 := n4_; have HO441 := n5_; have BK403 := n6_; have BK412 := n7_; have HB := n8_; have BK447 := n9_; have GW447 := n10_; have GE447 := n11_; have NB403_447 := n12_; have NB447_403 := n13_; have NB412_447 := n14_; have NB447_412 := n15_; clear n0_ n1_ n2_ n3_ n4_ n5_ n6_ n7_ n8_ n9_ n10_ n11_ n12_ n13_ n14_ n15_; clear hb hbox hg; obtain ⟨Ao63, co63, eo63, _⟩ := Kd.Q_slice HO438.out; subst eo63; have hnb64 := NB447_403.out; have hnc64 := NB403_447.out; have hnb65 := NB447_412.out; have hnc65 := NB412_447.out; have hcz66_0 : w62.cell? ⟨gb447, 0, none⟩ = some (.slice none 0 0) := (qA BK447.out 0).trans rfl; have hcz66_1 : w62.cell? ⟨gb447, 1, none⟩ = some (.slice none 0 0) := (qA BK447.out 1).trans rfl; have hcz66_2 : w62.cell? ⟨gb447, 2, none⟩ = some (.int .i64 0) := (qA BK447.out 2).trans rfl; have hcz66_3 : w62.cell? ⟨gb447, 3, none⟩ = some (.int .i64 0) := (qA BK447.out 3).trans rfl; have hfz66_0 := qD BK447.out 0; have hfz66_1 := qD BK447.out 1; have hfz66_2 := qD BK447.out 2; have hfz66_3 := qD BK447.out 3; obtain ⟨Ao67, co67, eo67⟩ := Kd.zG HO441.out; subst eo67))
              (try simp only [Act.put, List.setIfInBounds_toArray, List.set_cons_zero, List.set_cons_succ])
              go_cut [8] (fun v8 wc => ∃ (kq : Nat) (x8_59 : Int), v8 = .int .i64 x8_59 ∧ Aside0 (laws_FnDiskSync.j2 kq x8_59 t445 t446 t395 t398 t401 t402 t404 t407 t410 t411 = some true) ∧ Aside0 (kq ≤ kj7) ∧ Aside0 (Kd.Q Kd.string 9 wc w.heap.size (fun k_ => some k_ ≠ ((.slice Ao16 t404.length co16) : Value).ownBlock ∧ some k_ ≠ ((.slice Ao63 t436.length co63) : Value).ownBlock) (.slice Ao11 t395.length co11) t395) ∧ Aside0 (Kd.R k70 70 wc w.heap.size (fun k_ => some k_ ≠ ((.slice Ao19 t407.length co19) : Value).ownBlock ∧ some k_ ≠ ((.slice Ao67 t439.length co67) : Value).ownBlock) (.slice Ao13 t398.length co13) t398) ∧ Aside0 (Kd.Q Kd.string 9 wc w.heap.size (fun k_ => some k_ ≠ ((.slice Ao11 t395.length co11) : Value).ownBlock ∧ some k_ ≠ ((.slice Ao63 t436.length co63) : Value).ownBlock) (.slice Ao16 t404.length co16) t404) ∧ Aside0 (Kd.R k70 70 wc w.heap.size (fun k_ => some k_ ≠ ((.slice Ao13 t398.length co13) : Value).ownBlock ∧ some k_ ≠ ((.slice Ao67 t439.length co67) : Value).ownBlock) (.slice Ao19 t407.length co19) t407) ∧ Aside0 (Kd.Q Kd.string 9 wc w.heap.size (fun k_ => some k_ ≠ ((.slice Ao11 t395.length co11) : Value).ownBlock ∧ some k_ ≠ ((.slice Ao16 t404.length co16) : Value).ownBlock) (.slice Ao63 t436.length co63) t436) ∧ Aside0 (Kd.R k70 70 wc w.heap.size (fun k_ => some k_ ≠ ((.slice Ao13 t398.length co13) : Value).ownBlock ∧ some k_ ≠ ((.slice Ao19 t407.length co19) : Value).ownBlock) (.slice Ao67 t439.length co67) t439) ∧ Aside0 (wc.heap[gb403]? = some (.cells #[(.slice Ao11 t395.length co11), (.slice Ao13 t398.length co13), .int .i64 t401, .int .i64 t402] 26 (0, 0))) ∧ Aside0 (wc.heap[gb412]? = some (.cells #[(.slice Ao16 t404.length co16), (.slice Ao19 t407.length co19), .int .i64 t410, .int .i64 t411] 26 (0, 0))) ∧ Aside0 (wc.heap[gb447]? = some (.cells #[(.slice Ao63 t436.length co63), (.slice Ao67 t439.length co67), .int .i64 t442, .int .i64 t443] 26 (0, 0))) ∧ Aside0 (Below w.heap.size w wc))
              case first =>
                have H := HC60.out
                clear HC60
                by_cases c68 : t444 < 0
                · rw [if_pos c68] at H
                  have c68b0 : decide (t444 < 0) = true := decide_eq_true c68
                  clear c68
                  (first | rw [c68b0] | (simp only [i64_w, i32_w]; rw [c68b0]) | skip)
                  have H' := Aside0.mk H
                  clear H
                  go_wp2
                  go_meet
                  case rel => exact ⟨_, (0), (by first | rfl | (simp; done) | (simp [*]; done)), H', ⟨by have := HJ2.out; have := HJ7.out; first | omega | exact Nat.le_refl _⟩, ⟨by (with_reducible repeat (first | apply Kd.zW | apply Kd.zX | apply Kd.zS)); exact Kd.zU (Kd.Q_far (p := ⟨gb447, 3, none⟩) (Kd.Q_far (p := ⟨gb447, 2, none⟩) (Kd.Q_far (p := ⟨gb447, 1, none⟩) (Kd.Q_far (p := ⟨gb447, 0, none⟩) (Kd.xA HO_404000.out BK447.out (by decide)) (fun _ hk => hk.2) (.slice Ao63 t436.length co63)) (fun _ hk => hk.2) (.slice Ao67 t439.length co67)) (fun _ hk => hk.2) (.int .i64 t442)) (fun _ hk => hk.2) (.int .i64 t443)) (fun _ hk => ⟨hk.1.1, hk.1.2⟩)⟩, ⟨by (with_reducible repeat (first | apply Kd.qX | apply Kd.qV | apply Kd.qW)); exact Kd.qS (Kd.R_far (p := ⟨gb447, 3, none⟩) (Kd.R_far (p := ⟨gb447, 2, none⟩) (Kd.R_far (p := ⟨gb447, 1, none⟩) (Kd.R_far (p := ⟨gb447, 0, none⟩) (Kd.qY HO_404001.out BK447.out (by decide)) (fun _ hk => hk.2) (.slice Ao63 t436.length co63)) (fun _ hk => hk.2) (.slice Ao67 t439.length co67)) (fun _ hk => hk.2) (.int .i64 t442)) (fun _ hk => hk.2) (.int .i64 t443)) (fun _ hk => ⟨hk.1.1, hk.1.2⟩)⟩, ⟨by (with_reducible repeat (first | apply Kd.zW | apply Kd.zX | apply Kd.zS)); exact Kd.zU (Kd.Q_far (p := ⟨gb447, 3, none⟩) (Kd.Q_far (p := ⟨gb447, 2, none⟩) (Kd.Q_far (p := ⟨gb447, 1, none⟩) (Kd.Q_far (p := ⟨gb447, 0, none⟩) (Kd.xA HO_413000.out BK447.out (by decide)) (fun _ hk => hk.2) (.slice Ao63 t436.length co63)) (fun _ hk => hk.2) (.slice Ao67 t439.length co67)) (fun _ hk => hk.2) (.int .i64 t442)) (fun _ hk => hk.2) (.int .i64 t443)) (fun _ hk => ⟨hk.1.1, hk.1.2⟩)⟩, ⟨by (with_reducible repeat (first | apply Kd.qX | apply Kd.qV | apply Kd.qW)); exact Kd.qS (Kd.R_far (p := ⟨gb447, 3, none⟩) (Kd.R_far (p := ⟨gb447, 2, none⟩) (Kd.R_far (p := ⟨gb447, 1, none⟩) (Kd.R_far (p := ⟨gb447, 0, none⟩) (Kd.qY HO_413001.out BK447.out (by decide)) (fun _ hk => hk.2) (.slice Ao63 t436.length co63)) (fun _ hk => hk.2) (.slice Ao67 t439.length co67)) (fun _ hk => hk.2) (.int .i64 t442)) (fun _ hk => hk.2) (.int .i64 t443)) (fun _ hk => ⟨hk.1.1, hk.1.2⟩)⟩, ⟨by (with_reducible repeat (first | apply Kd.zW | apply Kd.zX | apply Kd.zS)); exact Kd.zU (Kd.Q_far (p := ⟨gb447, 3, none⟩) (Kd.Q_far (p := ⟨gb447, 2, none⟩) (Kd.Q_far (p := ⟨gb447, 1, none⟩) (Kd.Q_far (p := ⟨gb447, 0, none⟩) (Kd.xA HO438.out BK447.out (by decide)) (fun _ hk => hk.2) (.slice Ao63 t436.length co63)) (fun _ hk => hk.2) (.slice Ao67 t439.length co67)) (fun _ hk => hk.2) (.int .i64 t442)) (fun _ hk => hk.2) (.int .i64 t443)) (fun _ hk => ⟨hk.1.1.2, hk.1.2⟩)⟩, ⟨by (with_reducible repeat (first | apply Kd.qX | apply Kd.qV | apply Kd.qW)); exact Kd.qS (Kd.R_far (p := ⟨gb447, 3, none⟩) (Kd.R_far (p := ⟨gb447, 2, none⟩) (Kd.R_far (p := ⟨gb447, 1, none⟩) (Kd.R_far (p := ⟨gb447, 0, none⟩) (Kd.qY HO441.out BK447.out (by decide)) (fun _ hk => hk.2) (.slice Ao63 t436.length co63)) (fun _ hk => hk.2) (.slice Ao67 t439.length co67)) (fun _ hk => hk.2) (.int .i64 t442)) (fun _ hk => hk.2) (.int .i64 t443)) (fun _ hk => ⟨hk.1.1.2, hk.1.2⟩)⟩, ⟨by (with_reducible repeat (first | refine qH ?_ _ | refine qI ?_ | refine qG ?_ _)); refine qR ?_ NB403_447.out _; (with_reducible repeat (first | refine qH ?_ _ | refine qI ?_ | refine qG ?_ _)); refine qR ?_ NB403_447.out _; (with_reducible repeat (first | refine qH ?_ _ | refine qI ?_ | refine qG ?_ _)); refine qR ?_ NB403_447.out _; (with_reducible repeat (first | refine qH ?_ _ | refine qI ?_ | refine qG ?_ _)); refine qR ?_ NB403_447.out _; (with_reducible repeat (first | refine qH ?_ _ | refine qI ?_ | refine qG ?_ _)); exact BK403.out⟩, ⟨by (with_reducible repeat (first | refine qH ?_ _ | refine qI ?_ | refine qG ?_ _)); refine qR ?_ NB412_447.out _; (with_reducible repeat (first | refine qH ?_ _ | refine qI ?_ | refine qG ?_ _)); refine qR ?_ NB412_447.out _; (with_reducible repeat (first | refine qH ?_ _ | refine qI ?_ | refine qG ?_ _)); refine qR ?_ NB412_447.out _; (with_reducible repeat (first | refine qH ?_ _ | refine qI ?_ | refine qG ?_ _)); refine qR ?_ NB412_447.out _; (with_reducible repeat (first | refine qH ?_ _ | refine qI ?_ | refine qG ?_ _)); exact BK412.out⟩, ⟨by (with_reducible repeat (first | refine qH ?_ _ | refine qI ?_ | refine qG ?_ _)); refine qP (cs := #[.slice Ao63 t436.length co63, .slice Ao67 t439.length co67, .int .i64 t442, .int .i64 0]) ?_ 3 _ rfl; (with_reducible repeat (first | refine qH ?_ _ | refine qI ?_ | refine qG ?_ _)); refine qP (cs := #[.slice Ao63 t436.length co63, .slice Ao67 t439.length co67, .int .i64 0, .int .i64 0]) ?_ 2 _ rfl; (with_reducible repeat (first | refine qH ?_ _ | refine qI ?_ | refine qG ?_ _)); refine qP (cs := #[.slice Ao63 t436.length co63, .slice none 0 0, .int .i64 0, .int .i64 0]) ?_ 1 _ rfl; (with_reducible repeat (first | refine qH ?_ _ | refine qI ?_ | refine qG ?_ _)); refine qP (cs := #[.slice none 0 0, .slice none 0 0, .int .i64 0, .int .i64 0]) ?_ 0 _ rfl; (with_reducible repeat (first | refine qH ?_ _ | refine qI ?_ | refine qG ?_ _)); exact BK447.out⟩, ⟨by repeat (first | (with_reducible first | exact HB.out | apply qF | apply qC | apply qE | refine qB ?_ GE403.out | refine qB ?_ GE412.out | refine qB ?_ GE447.out) | exact HB.out)⟩⟩
                · rw [if_neg c68] at H
                  have c68b0 : decide (t444 < 0) = false := decide_eq_false c68
                  clear c68
                  (first | rw [c68b0] | (simp only [i64_w, i32_w]; rw [c68b0]) | skip)
                  have H' := Aside0.mk H
                  clear H
                  go_wp2
                  go_meet
                  case rel => exact ⟨_, (t444), (by first | rfl | (simp; done) | (simp [*]; done)), H', ⟨by have := HJ2.out; have := HJ7.out; first | omega | exact Nat.le_refl _⟩, ⟨by (with_reducible repeat (first | apply Kd.zW | apply Kd.zX | apply Kd.zS)); exact Kd.zU (Kd.Q_far (p := ⟨gb447, 3, none⟩) (Kd.Q_far (p := ⟨gb447, 2, none⟩) (Kd.Q_far (p := ⟨gb447, 1, none⟩) (Kd.Q_far (p := ⟨gb447, 0, none⟩) (Kd.xA HO_404000.out BK447.out (by decide)) (fun _ hk => hk.2) (.slice Ao63 t436.length co63)) (fun _ hk => hk.2) (.slice Ao67 t439.length co67)) (fun _ hk => hk.2) (.int .i64 t442)) (fun _ hk => hk.2) (.int .i64 t443)) (fun _ hk => ⟨hk.1.1, hk.1.2⟩)⟩, ⟨by (with_reducible repeat (first | apply Kd.qX | apply Kd.qV | apply Kd.qW)); exact Kd.qS (Kd.R_far (p := ⟨gb447, 3, none⟩) (Kd.R_far (p := ⟨gb447, 2, none⟩) (Kd.R_far (p := ⟨gb447, 1, none⟩) (Kd.R_far (p := ⟨gb447, 0, none⟩) (Kd.qY HO_404001.out BK447.out (by decide)) (fun _ hk => hk.2) (.slice Ao63 t436.length co63)) (fun _ hk => hk.2) (.slice Ao67 t439.length co67)) (fun _ hk => hk.2) (.int .i64 t442)) (fun _ hk => hk.2) (.int .i64 t443)) (fun _ hk => ⟨hk.1.1, hk.1.2⟩)⟩, ⟨by (with_reducible repeat (first | apply Kd.zW | apply Kd.zX | apply Kd.zS)); exact Kd.zU (Kd.Q_far (p := ⟨gb447, 3, none⟩) (Kd.Q_far (p := ⟨gb447, 2, none⟩) (Kd.Q_far (p := ⟨gb447, 1, none⟩) (Kd.Q_far (p := ⟨gb447, 0, none⟩) (Kd.xA HO_413000.out BK447.out (by decide)) (fun _ hk => hk.2) (.slice Ao63 t436.length co63)) (fun _ hk => hk.2) (.slice Ao67 t439.length co67)) (fun _ hk => hk.2) (.int .i64 t442)) (fun _ hk => hk.2) (.int .i64 t443)) (fun _ hk => ⟨hk.1.1, hk.1.2⟩)⟩, ⟨by (with_reducible repeat (first | apply Kd.qX | apply Kd.qV | apply Kd.qW)); exact Kd.qS (Kd.R_far (p := ⟨gb447, 3, none⟩) (Kd.R_far (p := ⟨gb447, 2, none⟩) (Kd.R_far (p := ⟨gb447, 1, none⟩) (Kd.R_far (p := ⟨gb447, 0, none⟩) (Kd.qY HO_413001.out BK447.out (by decide)) (fun _ hk => hk.2) (.slice Ao63 t436.length co63)) (fun _ hk => hk.2) (.slice Ao67 t439.length co67)) (fun _ hk => hk.2) (.int .i64 t442)) (fun _ hk => hk.2) (.int .i64 t443)) (fun _ hk => ⟨hk.1.1, hk.1.2⟩)⟩, ⟨by (with_reducible repeat (first | apply Kd.zW | apply Kd.zX | apply Kd.zS)); exact Kd.zU (Kd.Q_far (p := ⟨gb447, 3, none⟩) (Kd.Q_far (p := ⟨gb447, 2, none⟩) (Kd.Q_far (p := ⟨gb447, 1, none⟩) (Kd.Q_far (p := ⟨gb447, 0, none⟩) (Kd.xA HO438.out BK447.out (by decide)) (fun _ hk => hk.2) (.slice Ao63 t436.length co63)) (fun _ hk => hk.2) (.slice Ao67 t439.length co67)) (fun _ hk => hk.2) (.int .i64 t442)) (fun _ hk => hk.2) (.int .i64 t443)) (fun _ hk => ⟨hk.1.1.2, hk.1.2⟩)⟩, ⟨by (with_reducible repeat (first | apply Kd.qX | apply Kd.qV | apply Kd.qW)); exact Kd.qS (Kd.R_far (p := ⟨gb447, 3, none⟩) (Kd.R_far (p := ⟨gb447, 2, none⟩) (Kd.R_far (p := ⟨gb447, 1, none⟩) (Kd.R_far (p := ⟨gb447, 0, none⟩) (Kd.qY HO441.out BK447.out (by decide)) (fun _ hk => hk.2) (.slice Ao63 t436.length co63)) (fun _ hk => hk.2) (.slice Ao67 t439.length co67)) (fun _ hk => hk.2) (.int .i64 t442)) (fun _ hk => hk.2) (.int .i64 t443)) (fun _ hk => ⟨hk.1.1.2, hk.1.2⟩)⟩, ⟨by (with_reducible repeat (first | refine qH ?_ _ | refine qI ?_ | refine qG ?_ _)); refine qR ?_ NB403_447.out _; (with_reducible repeat (first | refine qH ?_ _ | refine qI ?_ | refine qG ?_ _)); refine qR ?_ NB403_447.out _; (with_reducible repeat (first | refine qH ?_ _ | refine qI ?_ | refine qG ?_ _)); refine qR ?_ NB403_447.out _; (with_reducible repeat (first | refine qH ?_ _ | refine qI ?_ | refine qG ?_ _)); refine qR ?_ NB403_447.out _; (with_reducible repeat (first | refine qH ?_ _ | refine qI ?_ | refine qG ?_ _)); exact BK403.out⟩, ⟨by (with_reducible repeat (first | refine qH ?_ _ | refine qI ?_ | refine qG ?_ _)); refine qR ?_ NB412_447.out _; (with_reducible repeat (first | refine qH ?_ _ | refine qI ?_ | refine qG ?_ _)); refine qR ?_ NB412_447.out _; (with_reducible repeat (first | refine qH ?_ _ | refine qI ?_ | refine qG ?_ _)); refine qR ?_ NB412_447.out _; (with_reducible repeat (first | refine qH ?_ _ | refine qI ?_ | refine qG ?_ _)); refine qR ?_ NB412_447.out _; (with_reducible repeat (first | refine qH ?_ _ | refine qI ?_ | refine qG ?_ _)); exact BK412.out⟩, ⟨by (with_reducible repeat (first | refine qH ?_ _ | refine qI ?_ | refine qG ?_ _)); refine qP (cs := #[.slice Ao63 t436.length co63, .slice Ao67 t439.length co67, .int .i64 t442, .int .i64 0]) ?_ 3 _ rfl; (with_reducible repeat (first | refine qH ?_ _ | refine qI ?_ | refine qG ?_ _)); refine qP (cs := #[.slice Ao63 t436.length co63, .slice Ao67 t439.length co67, .int .i64 0, .int .i64 0]) ?_ 2 _ rfl; (with_reducible repeat (first | refine qH ?_ _ | refine qI ?_ | refine qG ?_ _)); refine qP (cs := #[.slice Ao63 t436.length co63, .slice none 0 0, .int .i64 0, .int .i64 0]) ?_ 1 _ rfl; (with_reducible repeat (first | refine qH ?_ _ | refine qI ?_ | refine qG ?_ _)); refine qP (cs := #[.slice none 0 0, .slice none 0 0, .int .i64 0, .int .i64 0]) ?_ 0 _ rfl; (with_reducible repeat (first | refine qH ?_ _ | refine qI ?_ | refine qG ?_ _)); exact BK447.out⟩, ⟨by repeat (first | (with_reducible first | exact HB.out | apply qF | apply qC | apply qE | refine qB ?_ GE403.out | refine qB ?_ GE412.out | refine qB ?_ GE447.out) | exact HB.out)⟩⟩
              case rest =>
                clear HC60
                try clear c1
                try clear c2
                try clear p2
                try clear c3
                try clear c4
                try clear c6
                try clear c13
                try clear c15
                try clear c22
                try clear c27
                try clear c29
                try clear c30
                try clear c46
                try clear c49
                try clear c64
                try clear c65
                try clear c68
                try clear c68b0
                try clear hcz66_0
                try clear hcz66_1
                try clear hcz66_2
                try clear hcz66_3
                try clear hfz66_0
                try clear hfz66_1
                try clear hfz66_2
                try clear hfz66_3
                try clear p2
                obtain ⟨kq, x8_59, rfl, HA, HJ59, HO_404000, HO_404001, HO_413000, HO_413001, HO_448000, HO_448001, BK403, BK412, BK447, HB⟩ := hcut
                cases kq with
                | zero => exact absurd HA.out (by simp [laws_FnDiskSync.j2])
                | succ kj59 =>
                  have H := HA.out
                  clear HA
                  simp only [laws_FnDiskSync.j2] at H
                  replace H := Option.bind_eq_some_iff.mp H
                  obtain ⟨⟨t448, t451, t454, t455⟩, A690, H⟩ := H
                  replace H : (laws_FnDiskSync.l0 kj59 0 t395 t398 t401 t402 t404 t407 t410 t411 t448 t451 t454 t455) = some true := H
                  have A69 := Aside0.mk A690
                  clear A690
                  have H' := Aside0.mk H
                  clear H
                  have hnb70 := NB412_403.out
                  have hnc70 := NB403_412.out
                  have hnb71 := NB412_447.out
                  have hnc71 := NB447_412.out
                  have hcz72_0 : wc.cell? ⟨gb412, 0, none⟩ = some (.slice Ao16 t404.length co16) := (qA BK412.out 0).trans rfl
                  have hcz72_1 : wc.cell? ⟨gb412, 1, none⟩ = some (.slice Ao19 t407.length co19) := (qA BK412.out 1).trans rfl
                  have hcz72_2 : wc.cell? ⟨gb412, 2, none⟩ = some (.int .i64 t410) := (qA BK412.out 2).trans rfl
                  have hcz72_3 : wc.cell? ⟨gb412, 3, none⟩ = some (.int .i64 t411) := (qA BK412.out 3).trans rfl
                  have hfz72_0 := qD BK412.out 0
                  have hfz72_1 := qD BK412.out 1
                  have hfz72_2 := qD BK412.out 2
                  have hfz72_3 := qD BK412.out 3
                  go_wp2_with (first | ((with_reducible refine qT (f := 31) rfl ?_); refine zL (some 71) rfl rfl Try.func31 (by kernel_rfl) rfl #[.agg #[.slice Ao16 t404.length co16, .slice Ao19 t407.length co19, .int .i64 t410, .int .i64 t411], .int .i64 x8_59, .int .i64 t445, .int .i64 t446] rfl (by (try simp only [List.map_toArray, List.map_cons, List.map_nil]); first | done | rfl | (simp only [List.length_drop, List.length_take]; rfl)) ?_; (with_reducible refine (impl_DiskCrash.calls kj59 _ _ t404 _ _ t407 t410 t411 x8_59 t445 t446 t448 t451 t454 t455 _ ?side1 ?side2 ?side3 ?side4 A69.out).mono ?_); (case side1 => repeat (first | exact (Kd.zO HO_413000.out).2.2 | (with_reducible refine Kd.zC ?_ _) | (with_reducible refine Kd.zD ?_ _) | (with_reducible refine Kd.zH ?_))); (case side2 => exact (Kd.zO HO_413000.out).2.1); (case side3 => repeat (first | exact (Kd.zA HO_413001.out).2.2 | (with_reducible refine Kd.zC ?_ _) | (with_reducible refine Kd.zD ?_ _) | (with_reducible refine Kd.zH ?_))); (case side4 => exact (Kd.zA HO_413001.out).2.1); rintro e w73 ⟨v449, v452, rfl, ho0, ho1, hb⟩; refine ⟨_, rfl, ?_⟩; have n0_ := Aside0.mk (Kd.Q_elder' (qw_ HO_404000.out) (Kd.zY ho0) hb); have n1_ := Aside0.mk (Kd.zV (rw_ HO_404001.out) (Kd.zY ho1) hb); have n2_ := Aside0.mk (Kd.Q_elder' (qw_ HO_413000.out) (Kd.zY ho0) hb); have n3_ := Aside0.mk (Kd.zV (rw_ HO_413001.out) (Kd.zY ho1) hb); have n4_ := Aside0.mk (Kd.Q_elder' (qw_ HO_448000.out) (Kd.zY ho0) hb); have n5_ := Aside0.mk (Kd.zV (rw_ HO_448001.out) (Kd.zY ho1) hb); have n6_ := Aside0.mk (Kd.zJ (Kd.zZ (Kd.zZ (Kd.zZ ho0 (Kd.Q_lt (qw_ HO_404000.out))) (Kd.Q_lt (qw_ HO_413000.out))) (Kd.Q_lt (qw_ HO_448000.out))) (qM (by repeat (first | (with_reducible first | exact HB.out | apply qF | apply qC | apply qE | refine qB ?_ GE403.out | refine qB ?_ GE412.out | refine qB ?_ GE447.out) | exact HB.out)))); have n7_ := Aside0.mk (Kd.zJ (Kd.zZ (Kd.zZ (Kd.zZ ho1 (Kd.R_lt (rw_ HO_404001.out))) (Kd.R_lt (rw_ HO_413001.out))) (Kd.R_lt (rw_ HO_448001.out))) (qM (by repeat (first | (with_reducible first | exact HB.out | apply qF | apply qC | apply qE | refine qB ?_ GE403.out | refine qB ?_ GE412.out | refine qB ?_ GE447.out) | exact HB.out)))); have n8_ := Aside0.mk (qJ (g := gb403) (o := .cells #[.slice Ao11 t395.length co11, .slice Ao13 t398.length co13, .int .i64 t401, .int .i64 t402] 26 (0, 0)) (bw_ BK403.out) hb); have n9_ := Aside0.mk (qJ (g := gb412) (o := .cells #[.slice Ao16 t404.length co16, .slice Ao19 t407.length co19, .int .i64 t410, .int .i64 t411] 26 (0, 0)) (bw_ BK412.out) hb); have n10_ := Aside0.mk (qJ (g := gb447) (o := .cells #[.slice Ao63 t436.length co63, .slice Ao67 t439.length co67, .int .i64 t442, .int .i64 t443] 26 (0, 0)) (bw_ BK447.out) hb); have n11_ := Aside0.mk (qN (by repeat (first | (with_reducible first | exact HB.out | apply qF | apply qC | apply qE | refine qB ?_ GE403.out | refine qB ?_ GE412.out | refine qB ?_ GE447.out) | exact HB.out)) hb); clear HO_404000; clear HO_404001; clear HO_413000; clear HO_413001; clear HO_448000; clear HO_448001; clear BK403; clear BK412; clear BK447; clear HB; have HO_404000 := n0_; have HO_404001 := n1_; have HO_413000 := n2_; have HO_413001 := n3_; have HO_448000 := n4_; have HO_448001 := n5_; have HO450 := n6_; have HO453 := n7_; have BK403 := n8_; have BK412 := n9_; have BK447 := n10_; have HB := n11_; clear n0_ n1_ n2_ n3_ n4_ n5_ n6_ n7_ n8_ n9_ n10_ n11_; (try clear hb); (try clear hb2); (try clear hk); (try clear hi); (try clear ho0); (try clear ho1)) | ((with_reducible refine zB (N := 11) rfl ?_); refine qZ ?hg (N := 11) ?hd (cs := #[.slice none 0 0, .slice none 0 0, .int .i64 0, .int .i64 0]) (t := 26) ?hr ?_; (case hd => rfl); (case hg => rfl); (case hr => first | (go_simp; done) | (go_simp; rfl)); intro gb456 hg w74 hbox hb; have n0_ := Aside0.mk (Kd.zP (qw_ HO_404000.out) hb); have n1_ := Aside0.mk (Kd.qU (rw_ HO_404001.out) hb); have n2_ := Aside0.mk (Kd.zP (qw_ HO_413000.out) hb); have n3_ := Aside0.mk (Kd.qU (rw_ HO_413001.out) hb); have n4_ := Aside0.mk (Kd.zP (qw_ HO_448000.out) hb); have n5_ := Aside0.mk (Kd.qU (rw_ HO_448001.out) hb); have n6_ := Aside0.mk (Kd.qU (rw_ HO450.out) hb); have n7_ := Aside0.mk (Kd.qU (rw_ HO453.out) hb); have n8_ := Aside0.mk (qJ (g := gb403) (o := .cells #[.slice Ao11 t395.length co11, .slice Ao13 t398.length co13, .int .i64 t401, .int .i64 t402] 26 (0, 0)) (bw_ BK403.out) hb); have n9_ := Aside0.mk (qJ (g := gb412) (o := .cells #[.slice Ao16 t404.length co16, .slice Ao19 t407.length co19, .int .i64 t410, .int .i64 t411] 26 (0, 0)) (bw_ BK412.out) hb); have n10_ := Aside0.mk (qJ (g := gb447) (o := .cells #[.slice Ao63 t436.length co63, .slice Ao67 t439.length co67, .int .i64 t442, .int .i64 t443] 26 (0, 0)) (bw_ BK447.out) hb); have n11_ := Aside0.mk (qN (by repeat (first | (with_reducible first | exact HB.out | apply qF | apply qC | apply qE | refine qB ?_ GE403.out | refine qB ?_ GE412.out | refine qB ?_ GE447.out) | exact HB.out)) hb); have n12_ := Aside0.mk (hbox); have n13_ := Aside0.mk ((by rw [hg]; exact (qM (by repeat (first | (with_reducible first | exact HB.out | apply qF | apply qC | apply qE | refine qB ?_ GE403.out | refine qB ?_ GE412.out | refine qB ?_ GE447.out) | exact HB.out))) : w.heap.size ≤ gb456)); have n14_ := Aside0.mk ((by rw [hg]; exact (qM (by repeat (first | (with_reducible first | exact HB.out | apply qF | apply qC | apply qE | refine qB ?_ GE403.out | refine qB ?_ GE412.out | refine qB ?_ GE447.out) | exact HB.out))) : w.heap.size ≤ gb456)); have n15_ := Aside0.mk ((by rw [hg]; exact Nat.ne_of_lt (zE (g := gb403) (o := .cells #[.slice Ao11 t395.length co11, .slice Ao13 t398.length co13, .int .i64 t401, .int .i64 t402] 26 (0, 0)) (bw_ BK403.out)) : gb403 ≠ gb456)); have n16_ := Aside0.mk ((by rw [hg]; exact Nat.ne_of_gt (zE (g := gb403) (o := .cells #[.slice Ao11 t395.length co11, .slice Ao13 t398.length co13, .int .i64 t401, .int .i64 t402] 26 (0, 0)) (bw_ BK403.out)) : gb456 ≠ gb403)); have n17_ := Aside0.mk ((by rw [hg]; exact Nat.ne_of_lt (zE (g := gb412) (o := .cells #[.slice Ao16 t404.length co16, .slice Ao19 t407.length co19, .int .i64 t410, .int .i64 t411] 26 (0, 0)) (bw_ BK412.out)) : gb412 ≠ gb456)); have n18_ := Aside0.mk ((by rw [hg]; exact Nat.ne_of_gt (zE (g := gb412) (o := .cells #[.slice Ao16 t404.length co16, .slice Ao19 t407.length co19, .int .i64 t410, .int .i64 t411] 26 (0, 0)) (bw_ BK412.out)) : gb456 ≠ gb412)); have n19_ := Aside0.mk ((by rw [hg]; exact Nat.ne_of_lt (zE (g := gb447) (o := .cells #[.slice Ao63 t436.length co63, .slice Ao67 t439.length co67, .int .i64 t442, .int .i64 t443] 26 (0, 0)) (bw_ BK447.out)) : gb447 ≠ gb456)); have n20_ := Aside0.mk ((by rw [hg]; exact Nat.ne_of_gt (zE (g := gb447) (o := .cells #[.slice Ao63 t436.length co63, .slice Ao67 t439.length co67, .int .i64 t442, .int .i64 t443] 26 (0, 0)) (bw_ BK447.out)) : gb456 ≠ gb447)); clear HO_404000; clear HO_404001; clear HO_413000; clear HO_413001; clear HO_448000; clear HO_448001; clear HO450; clear HO453; clear BK403; clear BK412; clear BK447; clear HB; have HO_404000 := n0_; have HO_404001 := n1_; have HO_413000 := n2_; have HO_413001 := n3_; have HO_448000 := n4_; have HO_448001 := n5_; have HO450 := n6_; have HO453 := n7_; have BK403 := n8_; have BK412 := n9_; have BK447 := n10_; have HB := n11_; have BK456 := n12_; have GW456 := n13_; have GE456 := n14_; have NB403_456 := n15_; have NB456_403 := n16_; have NB412_456 := n17_; have NB456_412 := n18_; have NB447_456 := n19_; have NB456_447 := n20_; clear n0_ n1_ n2_ n3_ n4_ n5_ n6_ n7_ n8_ n9_ n10_ n11_ n12_ n13_ n14_ n15_ n16_ n17_ n18_ n19_ n20_; clear hb hbox hg; obtain ⟨Ao75, co75, eo75⟩ := Kd.zG HO450.out; subst eo75; have hnb76 := NB456_403.out; have hnc76 := NB403_456.out; have hnb77 := NB456_412.out; have hnc77 := NB412_456.out; have hnb78 := NB456_447.out; have hnc78 := NB447_456.out; have hcz79_0 : w74.cell? ⟨gb456, 0, none⟩ = some (.slice none 0 0) := (qA BK456.out 0).trans rfl; have hcz79_1 : w74.cell? ⟨gb456, 1, none⟩ = some (.slice none 0 0) := (qA BK456.out 1).trans rfl; have hcz79_2 : w74.cell? ⟨gb456, 2, none⟩ = some (.int .i64 0) := (qA BK456.out 2).trans rfl; have hcz79_3 : w74.cell? ⟨gb456, 3, none⟩ = some (.int .i64 0) := (qA BK456.out 3).trans rfl; have hfz79_0 := qD BK456.out 0; have hfz79_1 := qD BK456.out 1; have hfz79_2 := qD BK456.out 2; have hfz79_3 := qD BK456.out 3; obtain ⟨Ao80, co80, eo80⟩ := Kd.zG HO453.out; subst eo80))
                  go_loopg [12] kj59 (fun kq v12 w' => ∃ (x12_4 : Int), v12 = .int .i64 x12_4 ∧ Aside0 (laws_FnDiskSync.l0 kq x12_4 t395 t398 t401 t402 t404 t407 t410 t411 t448 t451 t454 t455 = some true) ∧ Aside0 (kq ≤ kj59) ∧ Aside0 (Kd.Q Kd.string 9 w' w.heap.size (fun k_ => some k_ ≠ ((.slice Ao16 t404.length co16) : Value).ownBlock ∧ some k_ ≠ ((.slice Ao63 t436.length co63) : Value).ownBlock ∧ some k_ ≠ ((.slice Ao75 t448.length co75) : Value).ownBlock) (.slice Ao11 t395.length co11) t395) ∧ Aside0 (Kd.R k70 70 w' w.heap.size (fun k_ => some k_ ≠ ((.slice Ao19 t407.length co19) : Value).ownBlock ∧ some k_ ≠ ((.slice Ao67 t439.length co67) : Value).ownBlock ∧ some k_ ≠ ((.slice Ao80 t451.length co80) : Value).ownBlock) (.slice Ao13 t398.length co13) t398) ∧ Aside0 (Kd.Q Kd.string 9 w' w.heap.size (fun k_ => some k_ ≠ ((.slice Ao11 t395.length co11) : Value).ownBlock ∧ some k_ ≠ ((.slice Ao63 t436.length co63) : Value).ownBlock ∧ some k_ ≠ ((.slice Ao75 t448.length co75) : Value).ownBlock) (.slice Ao16 t404.length co16) t404) ∧ Aside0 (Kd.R k70 70 w' w.heap.size (fun k_ => some k_ ≠ ((.slice Ao13 t398.length co13) : Value).ownBlock ∧ some k_ ≠ ((.slice Ao67 t439.length co67) : Value).ownBlock ∧ some k_ ≠ ((.slice Ao80 t451.length co80) : Value).ownBlock) (.slice Ao19 t407.length co19) t407) ∧ Aside0 (Kd.Q Kd.string 9 w' w.heap.size (fun k_ => some k_ ≠ ((.slice Ao11 t395.length co11) : Value).ownBlock ∧ some k_ ≠ ((.slice Ao16 t404.length co16) : Value).ownBlock ∧ some k_ ≠ ((.slice Ao75 t448.length co75) : Value).ownBlock) (.slice Ao63 t436.length co63) t436) ∧ Aside0 (Kd.R k70 70 w' w.heap.size (fun k_ => some k_ ≠ ((.slice Ao13 t398.length co13) : Value).ownBlock ∧ some k_ ≠ ((.slice Ao19 t407.length co19) : Value).ownBlock ∧ some k_ ≠ ((.slice Ao80 t451.length co80) : Value).ownBlock) (.slice Ao67 t439.length co67) t439) ∧ Aside0 (Kd.Q Kd.string 9 w' w.heap.size (fun k_ => some k_ ≠ ((.slice Ao11 t395.length co11) : Value).ownBlock ∧ some k_ ≠ ((.slice Ao16 t404.length co16) : Value).ownBlock ∧ some k_ ≠ ((.slice Ao63 t436.length co63) : Value).ownBlock) (.slice Ao75 t448.length co75) t448) ∧ Aside0 (Kd.R k70 70 w' w.heap.size (fun k_ => some k_ ≠ ((.slice Ao13 t398.length co13) : Value).ownBlock ∧ some k_ ≠ ((.slice Ao19 t407.length co19) : Value).ownBlock ∧ some k_ ≠ ((.slice Ao67 t439.length co67) : Value).ownBlock) (.slice Ao80 t451.length co80) t451) ∧ Aside0 (w'.heap[gb403]? = some (.cells #[(.slice Ao11 t395.length co11), (.slice Ao13 t398.length co13), .int .i64 t401, .int .i64 t402] 26 (0, 0))) ∧ Aside0 (w'.heap[gb412]? = some (.cells #[(.slice Ao16 t404.length co16), (.slice Ao19 t407.length co19), .int .i64 t410, .int .i64 t411] 26 (0, 0))) ∧ Aside0 (w'.heap[gb447]? = some (.cells #[(.slice Ao63 t436.length co63), (.slice Ao67 t439.length co67), .int .i64 t442, .int .i64 t443] 26 (0, 0))) ∧ Aside0 (w'.heap[gb456]? = some (.cells #[(.slice Ao75 t448.length co75), (.slice Ao80 t451.length co80), .int .i64 t454, .int .i64 t455] 26 (0, 0))) ∧ Aside0 (Below w.heap.size w w'))
                  case atStart => exact ⟨(0), (by first | rfl | (simp; done) | (simp [*]; done)), H', ⟨Nat.le_refl _⟩, ⟨by (with_reducible repeat (first | apply Kd.zW | apply Kd.zX | apply Kd.zS)); exact Kd.zU (Kd.Q_far (p := ⟨gb456, 3, none⟩) (Kd.Q_far (p := ⟨gb456, 2, none⟩) (Kd.Q_far (p := ⟨gb456, 1, none⟩) (Kd.Q_far (p := ⟨gb456, 0, none⟩) (Kd.xA HO_404000.out BK456.out (by decide)) (fun _ hk => hk.2) (.slice Ao75 t448.length co75)) (fun _ hk => hk.2) (.slice Ao80 t451.length co80)) (fun _ hk => hk.2) (.int .i64 t454)) (fun _ hk => hk.2) (.int .i64 t455)) (fun _ hk => ⟨hk.1.1.1, ⟨hk.1.1.2, hk.1.2⟩⟩)⟩, ⟨by (with_reducible repeat (first | apply Kd.qX | apply Kd.qV | apply Kd.qW)); exact Kd.qS (Kd.R_far (p := ⟨gb456, 3, none⟩) (Kd.R_far (p := ⟨gb456, 2, none⟩) (Kd.R_far (p := ⟨gb456, 1, none⟩) (Kd.R_far (p := ⟨gb456, 0, none⟩) (Kd.qY HO_404001.out BK456.out (by decide)) (fun _ hk => hk.2) (.slice Ao75 t448.length co75)) (fun _ hk => hk.2) (.slice Ao80 t451.length co80)) (fun _ hk => hk.2) (.int .i64 t454)) (fun _ hk => hk.2) (.int .i64 t455)) (fun _ hk => ⟨hk.1.1.1, ⟨hk.1.1.2, hk.1.2⟩⟩)⟩, ⟨by (with_reducible repeat (first | apply Kd.zW | apply Kd.zX | apply Kd.zS)); exact Kd.zU (Kd.Q_far (p := ⟨gb456, 3, none⟩) (Kd.Q_far (p := ⟨gb456, 2, none⟩) (Kd.Q_far (p := ⟨gb456, 1, none⟩) (Kd.Q_far (p := ⟨gb456, 0, none⟩) (Kd.xA HO_413000.out BK456.out (by decide)) (fun _ hk => hk.2) (.slice Ao75 t448.length co75)) (fun _ hk => hk.2) (.slice Ao80 t451.length co80)) (fun _ hk => hk.2) (.int .i64 t454)) (fun _ hk => hk.2) (.int .i64 t455)) (fun _ hk => ⟨hk.1.1.1, ⟨hk.1.1.2, hk.1.2⟩⟩)⟩, ⟨by (with_reducible repeat (first | apply Kd.qX | apply Kd.qV | apply Kd.qW)); exact Kd.qS (Kd.R_far (p := ⟨gb456, 3, none⟩) (Kd.R_far (p := ⟨gb456, 2, none⟩) (Kd.R_far (p := ⟨gb456, 1, none⟩) (Kd.R_far (p := ⟨gb456, 0, none⟩) (Kd.qY HO_413001.out BK456.out (by decide)) (fun _ hk => hk.2) (.slice Ao75 t448.length co75)) (fun _ hk => hk.2) (.slice Ao80 t451.length co80)) (fun _ hk => hk.2) (.int .i64 t454)) (fun _ hk => hk.2) (.int .i64 t455)) (fun _ hk => ⟨hk.1.1.1, ⟨hk.1.1.2, hk.1.2⟩⟩)⟩, ⟨by (with_reducible repeat (first | apply Kd.zW | apply Kd.zX | apply Kd.zS)); exact Kd.zU (Kd.Q_far (p := ⟨gb456, 3, none⟩) (Kd.Q_far (p := ⟨gb456, 2, none⟩) (Kd.Q_far (p := ⟨gb456, 1, none⟩) (Kd.Q_far (p := ⟨gb456, 0, none⟩) (Kd.xA HO_448000.out BK456.out (by decide)) (fun _ hk => hk.2) (.slice Ao75 t448.length co75)) (fun _ hk => hk.2) (.slice Ao80 t451.length co80)) (fun _ hk => hk.2) (.int .i64 t454)) (fun _ hk => hk.2) (.int .i64 t455)) (fun _ hk => ⟨hk.1.1.1, ⟨hk.1.1.2, hk.1.2⟩⟩)⟩, ⟨by (with_reducible repeat (first | apply Kd.qX | apply Kd.qV | apply Kd.qW)); exact Kd.qS (Kd.R_far (p := ⟨gb456, 3, none⟩) (Kd.R_far (p := ⟨gb456, 2, none⟩) (Kd.R_far (p := ⟨gb456, 1, none⟩) (Kd.R_far (p := ⟨gb456, 0, none⟩) (Kd.qY HO_448001.out BK456.out (by decide)) (fun _ hk => hk.2) (.slice Ao75 t448.length co75)) (fun _ hk => hk.2) (.slice Ao80 t451.length co80)) (fun _ hk => hk.2) (.int .i64 t454)) (fun _ hk => hk.2) (.int .i64 t455)) (fun _ hk => ⟨hk.1.1.1, ⟨hk.1.1.2, hk.1.2⟩⟩)⟩, ⟨Kd.Q_of_R (by (with_reducible repeat (first | apply Kd.qX | apply Kd.qV | apply Kd.qW)); exact Kd.qS (Kd.R_far (p := ⟨gb456, 3, none⟩) (Kd.R_far (p := ⟨gb456, 2, none⟩) (Kd.R_far (p := ⟨gb456, 1, none⟩) (Kd.R_far (p := ⟨gb456, 0, none⟩) (Kd.qY HO450.out BK456.out (by decide)) (fun _ hk => hk.2) (.slice Ao75 t448.length co75)) (fun _ hk => hk.2) (.slice Ao80 t451.length co80)) (fun _ hk => hk.2) (.int .i64 t454)) (fun _ hk => hk.2) (.int .i64 t455)) (fun _ hk => ⟨hk.1.1.1.2, ⟨hk.1.1.2, hk.1.2⟩⟩))⟩, ⟨by (with_reducible repeat (first | apply Kd.qX | apply Kd.qV | apply Kd.qW)); exact Kd.qS (Kd.R_far (p := ⟨gb456, 3, none⟩) (Kd.R_far (p := ⟨gb456, 2, none⟩) (Kd.R_far (p := ⟨gb456, 1, none⟩) (Kd.R_far (p := ⟨gb456, 0, none⟩) (Kd.qY HO453.out BK456.out (by decide)) (fun _ hk => hk.2) (.slice Ao75 t448.length co75)) (fun _ hk => hk.2) (.slice Ao80 t451.length co80)) (fun _ hk => hk.2) (.int .i64 t454)) (fun _ hk => hk.2) (.int .i64 t455)) (fun _ hk => ⟨hk.1.1.1.2, ⟨hk.1.1.2, hk.1.2⟩⟩)⟩, ⟨by (with_reducible repeat (first | refine qH ?_ _ | refine qI ?_ | refine qG ?_ _)); refine qR ?_ NB403_456.out _; (with_reducible repeat (first | refine qH ?_ _ | refine qI ?_ | refine qG ?_ _)); refine qR ?_ NB403_456.out _; (with_reducible repeat (first | refine qH ?_ _ | refine qI ?_ | refine qG ?_ _)); refine qR ?_ NB403_456.out _; (with_reducible repeat (first | refine qH ?_ _ | refine qI ?_ | refine qG ?_ _)); refine qR ?_ NB403_456.out _; (with_reducible repeat (first | refine qH ?_ _ | refine qI ?_ | refine qG ?_ _)); exact BK403.out⟩, ⟨by (with_reducible repeat (first | refine qH ?_ _ | refine qI ?_ | refine qG ?_ _)); refine qR ?_ NB412_456.out _; (with_reducible repeat (first | refine qH ?_ _ | refine qI ?_ | refine qG ?_ _)); refine qR ?_ NB412_456.out _; (with_reducible repeat (first | refine qH ?_ _ | refine qI ?_ | refine qG ?_ _)); refine qR ?_ NB412_456.out _; (with_reducible repeat (first | refine qH ?_ _ | refine qI ?_ | refine qG ?_ _)); refine qR ?_ NB412_456.out _; (with_reducible repeat (first | refine qH ?_ _ | refine qI ?_ | refine qG ?_ _)); exact BK412.out⟩, ⟨by (with_reducible repeat (first | refine qH ?_ _ | refine qI ?_ | refine qG ?_ _)); refine qR ?_ NB447_456.out _; (with_reducible repeat (first | refine qH ?_ _ | refine qI ?_ | refine qG ?_ _)); refine qR ?_ NB447_456.out _; (with_reducible repeat (first | refine qH ?_ _ | refine qI ?_ | refine qG ?_ _)); refine qR ?_ NB447_456.out _; (with_reducible repeat (first | refine qH ?_ _ | refine qI ?_ | refine qG ?_ _)); refine qR ?_ NB447_456.out _; (with_reducible repeat (first | refine qH ?_ _ | refine qI ?_ | refine qG ?_ _)); exact BK447.out⟩, ⟨by (with_reducible repeat (first | refine qH ?_ _ | refine qI ?_ | refine qG ?_ _)); refine qP (cs := #[.slice Ao75 t448.length co75, .slice Ao80 t451.length co80, .int .i64 t454, .int .i64 0]) ?_ 3 _ rfl; (with_reducible repeat (first | refine qH ?_ _ | refine qI ?_ | refine qG ?_ _)); refine qP (cs := #[.slice Ao75 t448.length co75, .slice Ao80 t451.length co80, .int .i64 0, .int .i64 0]) ?_ 2 _ rfl; (with_reducible repeat (first | refine qH ?_ _ | refine qI ?_ | refine qG ?_ _)); refine qP (cs := #[.slice Ao75 t448.length co75, .slice none 0 0, .int .i64 0, .int .i64 0]) ?_ 1 _ rfl; (with_reducible repeat (first | refine qH ?_ _ | refine qI ?_ | refine qG ?_ _)); refine qP (cs := #[.slice none 0 0, .slice none 0 0, .int .i64 0, .int .i64 0]) ?_ 0 _ rfl; (with_reducible repeat (first | refine qH ?_ _ | refine qI ?_ | refine qG ?_ _)); exact BK456.out⟩, ⟨by repeat (first | (with_reducible first | exact HB.out | apply qF | apply qC | apply qE | refine qB ?_ GE403.out | refine qB ?_ GE412.out | refine qB ?_ GE447.out | refine qB ?_ GE456.out) | exact HB.out)⟩⟩
                  case round =>
                    clear H'
                    try clear c1
                    try clear c2
                    try clear p2
                    try clear c3
                    try clear c4
                    try clear c6
                    try clear c7
                    try clear c13
                    try clear c15
                    try clear c22
                    try clear c27
                    try clear c29
                    try clear c30
                    try clear c31
                    try clear c46
                    try clear c49
                    try clear c64
                    try clear c65
                    try clear c68
                    try clear c68b0
                    try clear c70
                    try clear c71
                    try clear c76
                    try clear c77
                    try clear c78
                    try clear hcz66_0
                    try clear hcz66_1
                    try clear hcz66_2
                    try clear hcz66_3
                    try clear hcz72_0
                    try clear hcz72_1
                    try clear hcz72_2
                    try clear hcz72_3
                    try clear hcz79_0
                    try clear hcz79_1
                    try clear hcz79_2
                    try clear hcz79_3
                    try clear hfz66_0
                    try clear hfz66_1
                    try clear hfz66_2
                    try clear hfz66_3
                    try clear hfz72_0
                    try clear hfz72_1
                    try clear hfz72_2
                    try clear hfz72_3
                    try clear hfz79_0
                    try clear hfz79_1
                    try clear hfz79_2
                    try clear hfz79_3
                    try clear p2
                    obtain ⟨x12_4, rfl, HA, HK4, HO_404000, HO_404001, HO_413000, HO_413001, HO_448000, HO_448001, HO_457000, HO_457001, BK403, BK412, BK447, BK456, HB⟩ := hrel
                    cases gk with
                    | zero => exact absurd HA.out (by simp [laws_FnDiskSync.l0])
                    | succ k4 =>
                      have H := HA.out
                      clear HA
                      simp only [laws_FnDiskSync.l0] at H
                      by_cases c81 : x12_4 < 42
                      · rw [if_pos c81] at H
                        have c81b0 : decide (x12_4 < 42) = true := decide_eq_true c81
                        clear c81
                        replace H := Option.bind_eq_some_iff.mp H
                        obtain ⟨t457, A820, H⟩ := H
                        replace H : ((impl_DiskRead.f t395 t398 t401 t402 x12_4).bind fun t458 => (if t457.toList = t458.toList then (if 0 ≤ x12_4 then (if x12_4 < (t404.length : Int) then ((impl_DiskRead.f t395 t398 t401 t402 x12_4).bind fun t460 => (if (rdOf ByteArray.empty t404 x12_4).toList = t460.toList then (laws_FnDiskSync.l0 k4 (wrap64 (x12_4 + 1)) t395 t398 t401 t402 t404 t407 t410 t411 t448 t451 t454 t455) else (some false))) else (none)) else (none)) else (some false))) = some true := H
                        have A82 := Aside0.mk A820
                        clear A820
                        replace H := Option.bind_eq_some_iff.mp H
                        obtain ⟨t458, A830, H⟩ := H
                        replace H : (if t457.toList = t458.toList then (if 0 ≤ x12_4 then (if x12_4 < (t404.length : Int) then ((impl_DiskRead.f t395 t398 t401 t402 x12_4).bind fun t460 => (if (rdOf ByteArray.empty t404 x12_4).toList = t460.toList then (laws_FnDiskSync.l0 k4 (wrap64 (x12_4 + 1)) t395 t398 t401 t402 t404 t407 t410 t411 t448 t451 t454 t455) else (some false))) else (none)) else (none)) else (some false)) = some true := H
                        have A83 := Aside0.mk A830
                        clear A830
                        by_cases c84 : t457.toList = t458.toList
                        · rw [if_pos c84] at H
                          have c84b0 : (t457.toList == t458.toList) = true := beq_iff_eq.mpr c84
                          have c84b1 : (t457.toList != t458.toList) = false := bne_eq_false_iff_eq.mpr c84
                          clear c84
                          by_cases c85 : 0 ≤ x12_4
                          · rw [if_pos c85] at H
                            have c85b0 : decide (0 ≤ x12_4) = true := decide_eq_true c85
                            clear c85
                            by_cases c86 : x12_4 < (t404.length : Int)
                            · rw [if_pos c86] at H
                              have c86b0 : decide (x12_4 < (t404.length : Int)) = true := decide_eq_true c86
                              clear c86
                              replace H := Option.bind_eq_some_iff.mp H
                              obtain ⟨t460, A870, H⟩ := H
                              replace H : (if (rdOf ByteArray.empty t404 x12_4).toList = t460.toList then (laws_FnDiskSync.l0 k4 (wrap64 (x12_4 + 1)) t395 t398 t401 t402 t404 t407 t410 t411 t448 t451 t454 t455) else (some false)) = some true := H
                              have A87 := Aside0.mk A870
                              clear A870
                              by_cases c88 : (rdOf ByteArray.empty t404 x12_4).toList = t460.toList
                              · rw [if_pos c88] at H
                                have c88b0 : ((rdOf ByteArray.empty t404 x12_4).toList == t460.toList) = true := beq_iff_eq.mpr c88
                                have c88b1 : ((rdOf ByteArray.empty t404 x12_4).toList != t460.toList) = false := bne_eq_false_iff_eq.mpr c88
                                clear c88
                                have H' := Aside0.mk H
                                clear H
                                try go_wp2
                                have n0_ := Aside0.mk (Kd.zS HO_404000.out)
                                have n1_ := Aside0.mk (Kd.qW HO_404001.out)
                                have n2_ := Aside0.mk (Kd.zS HO_413000.out)
                                have n3_ := Aside0.mk (Kd.qW HO_413001.out)
                                have n4_ := Aside0.mk (Kd.zS HO_448000.out)
                                have n5_ := Aside0.mk (Kd.qW HO_448001.out)
                                have n6_ := Aside0.mk (Kd.zS HO_457000.out)
                                have n7_ := Aside0.mk (Kd.qW HO_457001.out)
                                have n8_ := Aside0.mk (qI BK403.out)
                                have n9_ := Aside0.mk (qI BK412.out)
                                have n10_ := Aside0.mk (qI BK447.out)
                                have n11_ := Aside0.mk (qI BK456.out)
                                have n12_ := Aside0.mk (qE HB.out)
                                clear HO_404000
                                clear HO_404001
                                clear HO_413000
                                clear HO_413001
                                clear HO_448000
                                clear HO_448001
                                clear HO_457000
                                clear HO_457001
                                clear BK403
                                clear BK412
                                clear BK447
                                clear BK456
                                clear HB
                                have HO_404000 := n0_
                                have HO_404001 := n1_
                                have HO_413000 := n2_
                                have HO_413001 := n3_
                                have HO_448000 := n4_
                                have HO_448001 := n5_
                                have HO_457000 := n6_
                                have HO_457001 := n7_
                                have BK403 := n8_
                                have BK412 := n9_
                                have BK447 := n10_
                                have BK456 := n11_
                                have HB := n12_
                                clear n0_ n1_ n2_ n3_ n4_ n5_ n6_ n7_ n8_ n9_ n10_ n11_ n12_
                                have p459 : 0 ≤ (x12_4 : Int) := of_decide_eq_true (by first | (with_reducible assumption) | assumption)
                                have q459 : x12_4 < (t404.length : Int) := of_decide_eq_true (by first | (with_reducible assumption) | assumption)
                                obtain ⟨ad459, e459, hx459_0⟩ := Kd.xF (Kd.zO HO_413000.out).2.2 x12_4 p459 q459
                                cases e459
                                replace p459 := eq_true p459
                                replace q459 := eq_true q459
                                refine start_ (n := 18) (S := fun w' => w'.cell? ⟨gb456, 0, none⟩ = some (.slice Ao75 t448.length co75) ∧ w'.cell? ⟨gb456, 1, none⟩ = some (.slice Ao80 t451.length co80) ∧ w'.cell? ⟨gb456, 2, none⟩ = some (.int .i64 t454) ∧ w'.cell? ⟨gb456, 3, none⟩ = some (.int .i64 t455) ∧ w'.cell? ⟨gb403, 0, none⟩ = some (.slice Ao11 t395.length co11) ∧ w'.cell? ⟨gb403, 1, none⟩ = some (.slice Ao13 t398.length co13) ∧ w'.cell? ⟨gb403, 2, none⟩ = some (.int .i64 t401) ∧ w'.cell? ⟨gb403, 3, none⟩ = some (.int .i64 t402) ∧ w'.cell? ⟨gb412, 0, none⟩ = some (.slice (some ad459) t404.length co16) ∧ w'.cell? ⟨gb412, 1, none⟩ = some (.slice Ao19 t407.length co19) ∧ w'.cell? ⟨gb412, 2, none⟩ = some (.int .i64 t410) ∧ w'.cell? ⟨gb412, 3, none⟩ = some (.int .i64 t411) ∧ w'.cell? (ad459.add (x12_4).toNat) = some (.string (rdOf ByteArray.empty t404 x12_4))) (ds := []) #[false, false, false, false, false, false, false, false, false, false, false, false, false, false, false, false, false, false] (by kernel_rfl) rfl rfl ⟨(qA BK456.out 0).trans rfl, (qA BK456.out 1).trans rfl, (qA BK456.out 2).trans rfl, (qA BK456.out 3).trans rfl, (qA BK403.out 0).trans rfl, (qA BK403.out 1).trans rfl, (qA BK403.out 2).trans rfl, (qA BK403.out 3).trans rfl, (qA BK412.out 0).trans rfl, (qA BK412.out 1).trans rfl, (qA BK412.out 2).trans rfl, (qA BK412.out 3).trans rfl, hx459_0⟩ (fun hHeld => ?_); refine with_tabW laws_FnDiskSync.tab14 laws_FnDiskSync.bits14 (fun HT_ HW_ => ?_)
                                generalize wr.drew = w89 at HO_404000 HO_404001 HO_413000 HO_413001 HO_448000 HO_448001 HO_457000 HO_457001 BK403 BK412 BK447 BK456 HB hx459_0 hHeld ⊢
                                refine pure_ (i := 1) (N := some 77) (v := ?_) (a' := ?_) #[false, true, false, false, false, false, false, false, false, false, false, false, false, false, false, false, false, false] rfl rfl (zK HT_.out (by kernel_rfl)) (fun _ _ _ h => h) (Or.inl ⟨by rfl, ?_⟩) ?_ ?_
                                rotate_left
                                · intro w'
                                  go_simp
                                  with_reducible rfl
                                rotate_left
                                · simp only [Act.put, List.setIfInBounds_toArray, List.set_cons_zero, List.set_cons_succ, i64_w, i32_w]
                                  rfl
                                refine pure_ (i := 4) (N := some 80) (v := ?_) (a' := ?_) #[false, true, false, false, true, false, false, false, false, false, false, false, false, false, false, false, false, false] rfl rfl (zK HT_.out (by kernel_rfl)) (fun _ _ _ h => h) (Or.inl ⟨by rfl, ?_⟩) ?_ ?_
                                rotate_left
                                · intro w'
                                  go_simp
                                  with_reducible rfl
                                rotate_left
                                · simp only [Act.put, List.setIfInBounds_toArray, List.set_cons_zero, List.set_cons_succ, i64_w, i32_w]
                                  rfl
                                refine take_ (i := 0) (N := some 76) (v := ?_) (a' := ?_) #[true, true, false, false, true, false, false, false, false, false, false, false, false, false, false, false, false, false] rfl rfl (zN HT_.out HW_.out (by kernel_rfl)) (fun _ _ _ h => h) (Or.inl ⟨by rfl, ?_⟩) hHeld ?_ ?_
                                rotate_left
                                · rintro w' ⟨s0, s1, s2, s3, s4, s5, s6, s7, s8, s9, s10, s11, s12⟩
                                  go_simp
                                  with_reducible rfl
                                rotate_left
                                · simp only [Act.put, List.setIfInBounds_toArray, List.set_cons_zero, List.set_cons_succ, i64_w, i32_w]
                                  rfl
                                refine take_ (i := 3) (N := some 79) (v := ?_) (a' := ?_) #[true, true, false, true, true, false, false, false, false, false, false, false, false, false, false, false, false, false] rfl rfl (zN HT_.out HW_.out (by kernel_rfl)) (fun _ _ _ h => h) (Or.inl ⟨by rfl, ?_⟩) hHeld ?_ ?_
                                rotate_left
                                · rintro w' ⟨s0, s1, s2, s3, s4, s5, s6, s7, s8, s9, s10, s11, s12⟩
                                  go_simp
                                  with_reducible rfl
                                rotate_left
                                · simp only [Act.put, List.setIfInBounds_toArray, List.set_cons_zero, List.set_cons_succ, i64_w, i32_w]
                                  rfl
                                refine one_ (i := 2) (N := some 78) #[true, true, true, true, true, false, false, false, false, false, false, false, false, false, false, false, false, false] rfl rfl (zR HT_.out (by kernel_rfl)) (by decide) (fun K hK => ?_)
                                refine goes_ Try.func21 (by kernel_rfl) rfl #[.agg #[.slice Ao75 t448.length co75, .slice Ao80 t451.length co80, .int .i64 t454, .int .i64 t455], .int .i64 x12_4] (by rfl) rfl rfl (by (try simp only [List.map_toArray, List.map_cons, List.map_nil]); first | done | rfl | (simp only [List.length_drop, List.length_take]; rfl)) ?_
                                with_reducible refine (impl_DiskRead.calls _ _ t448 _ _ t451 t454 t455 x12_4 t457 _ ?side1 ?side2 ?side3 ?side4 A82.out).mono ?_
                                (case side1 => repeat (first | exact (Kd.zO HO_457000.out).2.2 | (with_reducible refine Kd.zC ?_ _) | (with_reducible refine Kd.zD ?_ _) | (with_reducible refine Kd.zH ?_)))
                                (case side2 => exact (Kd.zO HO_457000.out).2.1)
                                (case side3 => repeat (first | exact (Kd.zA HO_457001.out).2.2 | (with_reducible refine Kd.zC ?_ _) | (with_reducible refine Kd.zD ?_ _) | (with_reducible refine Kd.zH ?_)))
                                (case side4 => exact (Kd.zA HO_457001.out).2.1)
                                rintro e w90 ⟨rfl, hb⟩
                                have HS12_ := (hb.cell (World.block_lt_of_cell? _ _ (hHeld.2.2.2.2.2.2.2.2.2.2.2.2))).trans (hHeld.2.2.2.2.2.2.2.2.2.2.2.2)
                                refine ⟨_, rfl, ?_⟩
                                have n0_ := Aside0.mk (Kd.zP (qw_ HO_404000.out) hb)
                                have n1_ := Aside0.mk (Kd.qU (rw_ HO_404001.out) hb)
                                have n2_ := Aside0.mk (Kd.zP (qw_ HO_413000.out) hb)
                                have n3_ := Aside0.mk (Kd.qU (rw_ HO_413001.out) hb)
                                have n4_ := Aside0.mk (Kd.zP (qw_ HO_448000.out) hb)
                                have n5_ := Aside0.mk (Kd.qU (rw_ HO_448001.out) hb)
                                have n6_ := Aside0.mk (Kd.zP (qw_ HO_457000.out) hb)
                                have n7_ := Aside0.mk (Kd.qU (rw_ HO_457001.out) hb)
                                have n8_ := Aside0.mk (qJ (g := gb403) (o := .cells #[.slice Ao11 t395.length co11, .slice Ao13 t398.length co13, .int .i64 t401, .int .i64 t402] 26 (0, 0)) (bw_ BK403.out) hb)
                                have n9_ := Aside0.mk (qJ (g := gb412) (o := .cells #[.slice (some ad459) t404.length co16, .slice Ao19 t407.length co19, .int .i64 t410, .int .i64 t411] 26 (0, 0)) (bw_ BK412.out) hb)
                                have n10_ := Aside0.mk (qJ (g := gb447) (o := .cells #[.slice Ao63 t436.length co63, .slice Ao67 t439.length co67, .int .i64 t442, .int .i64 t443] 26 (0, 0)) (bw_ BK447.out) hb)
                                have n11_ := Aside0.mk (qJ (g := gb456) (o := .cells #[.slice Ao75 t448.length co75, .slice Ao80 t451.length co80, .int .i64 t454, .int .i64 t455] 26 (0, 0)) (bw_ BK456.out) hb)
                                have n12_ := Aside0.mk (qN (by repeat (first | (with_reducible first | exact HB.out | apply qF | apply qC | apply qE | refine qB ?_ GE403.out | refine qB ?_ GE412.out | refine qB ?_ GE447.out | refine qB ?_ GE456.out) | exact HB.out)) hb)
                                clear HO_404000
                                clear HO_404001
                                clear HO_413000
                                clear HO_413001
                                clear HO_448000
                                clear HO_448001
                                clear HO_457000
                                clear HO_457001
                                clear BK403
                                clear BK412
                                clear BK447
                                clear BK456
                                clear HB
                                have HO_404000 := n0_
                                have HO_404001 := n1_
                                have HO_413000 := n2_
                                have HO_413001 := n3_
                                have HO_448000 := n4_
                                have HO_448001 := n5_
                                have HO_457000 := n6_
                                have HO_457001 := n7_
                                have BK403 := n8_
                                have BK412 := n9_
                                have BK447 := n10_
                                have BK456 := n11_
                                have HB := n12_
                                clear n0_ n1_ n2_ n3_ n4_ n5_ n6_ n7_ n8_ n9_ n10_ n11_ n12_
                                (try clear hb)
                                (try clear hb2)
                                (try clear hk)
                                (try clear hi)
                                refine hK.out _ _ ⟨(qA BK456.out 0).trans rfl, (qA BK456.out 1).trans rfl, (qA BK456.out 2).trans rfl, (qA BK456.out 3).trans rfl, (qA BK403.out 0).trans rfl, (qA BK403.out 1).trans rfl, (qA BK403.out 2).trans rfl, (qA BK403.out 3).trans rfl, (qA BK412.out 0).trans rfl, (qA BK412.out 1).trans rfl, (qA BK412.out 2).trans rfl, (qA BK412.out 3).trans rfl, HS12_⟩ (fun hHeld => ?_)
                                clear hK K
                                refine norm_ (a' := ?_) ?_ ?_
                                rotate_left
                                · show Act.put _ (some 78) _ = _
                                  simp only [Act.put, List.setIfInBounds_toArray, List.set_cons_zero, List.set_cons_succ, i64_w, i32_w]
                                  rfl
                                refine one_ (i := 5) (N := some 81) #[true, true, true, true, true, true, false, false, false, false, false, false, false, false, false, false, false, false] rfl rfl (zR HT_.out (by kernel_rfl)) (by decide) (fun K hK => ?_)
                                refine goes_ Try.func21 (by kernel_rfl) rfl #[.agg #[.slice Ao11 t395.length co11, .slice Ao13 t398.length co13, .int .i64 t401, .int .i64 t402], .int .i64 x12_4] (by rfl) rfl rfl (by (try simp only [List.map_toArray, List.map_cons, List.map_nil]); first | done | rfl | (simp only [List.length_drop, List.length_take]; rfl)) ?_
                                with_reducible refine (impl_DiskRead.calls _ _ t395 _ _ t398 t401 t402 x12_4 t458 _ ?side1 ?side2 ?side3 ?side4 A83.out).mono ?_
                                (case side1 => repeat (first | exact (Kd.zO HO_404000.out).2.2 | (with_reducible refine Kd.zC ?_ _) | (with_reducible refine Kd.zD ?_ _) | (with_reducible refine Kd.zH ?_)))
                                (case side2 => exact (Kd.zO HO_404000.out).2.1)
                                (case side3 => repeat (first | exact (Kd.zA HO_404001.out).2.2 | (with_reducible refine Kd.zC ?_ _) | (with_reducible refine Kd.zD ?_ _) | (with_reducible refine Kd.zH ?_)))
                                (case side4 => exact (Kd.zA HO_404001.out).2.1)
                                rintro e w91 ⟨rfl, hb⟩
                                have HS12_ := (hb.cell (World.block_lt_of_cell? _ _ (hHeld.2.2.2.2.2.2.2.2.2.2.2.2))).trans (hHeld.2.2.2.2.2.2.2.2.2.2.2.2)
                                refine ⟨_, rfl, ?_⟩
                                have n0_ := Aside0.mk (Kd.zP (qw_ HO_404000.out) hb)
                                have n1_ := Aside0.mk (Kd.qU (rw_ HO_404001.out) hb)
                                have n2_ := Aside0.mk (Kd.zP (qw_ HO_413000.out) hb)
                                have n3_ := Aside0.mk (Kd.qU (rw_ HO_413001.out) hb)
                                have n4_ := Aside0.mk (Kd.zP (qw_ HO_448000.out) hb)
                                have n5_ := Aside0.mk (Kd.qU (rw_ HO_448001.out) hb)
                                have n6_ := Aside0.mk (Kd.zP (qw_ HO_457000.out) hb)
                                have n7_ := Aside0.mk (Kd.qU (rw_ HO_457001.out) hb)
                                have n8_ := Aside0.mk (qJ (g := gb403) (o := .cells #[.slice Ao11 t395.length co11, .slice Ao13 t398.length co13, .int .i64 t401, .int .i64 t402] 26 (0, 0)) (bw_ BK403.out) hb)
                                have n9_ := Aside0.mk (qJ (g := gb412) (o := .cells #[.slice (some ad459) t404.length co16, .slice Ao19 t407.length co19, .int .i64 t410, .int .i64 t411] 26 (0, 0)) (bw_ BK412.out) hb)
                                have n10_ := Aside0.mk (qJ (g := gb447) (o := .cells #[.slice Ao63 t436.length co63, .slice Ao67 t439.length co67, .int .i64 t442, .int .i64 t443] 26 (0, 0)) (bw_ BK447.out) hb)
                                have n11_ := Aside0.mk (qJ (g := gb456) (o := .cells #[.slice Ao75 t448.length co75, .slice Ao80 t451.length co80, .int .i64 t454, .int .i64 t455] 26 (0, 0)) (bw_ BK456.out) hb)
                                have n12_ := Aside0.mk (qN (by repeat (first | (with_reducible first | exact HB.out | apply qF | apply qC | apply qE | refine qB ?_ GE403.out | refine qB ?_ GE412.out | refine qB ?_ GE447.out | refine qB ?_ GE456.out) | exact HB.out)) hb)
                                clear HO_404000
                                clear HO_404001
                                clear HO_413000
                                clear HO_413001
                                clear HO_448000
                                clear HO_448001
                                clear HO_457000
                                clear HO_457001
                                clear BK403
                                clear BK412
                                clear BK447
                                clear BK456
                                clear HB
                                have HO_404000 := n0_
                                have HO_404001 := n1_
                                have HO_413000 := n2_
                                have HO_413001 := n3_
                                have HO_448000 := n4_
                                have HO_448001 := n5_
                                have HO_457000 := n6_
                                have HO_457001 := n7_
                                have BK403 := n8_
                                have BK412 := n9_
                                have BK447 := n10_
                                have BK456 := n11_
                                have HB := n12_
                                clear n0_ n1_ n2_ n3_ n4_ n5_ n6_ n7_ n8_ n9_ n10_ n11_ n12_
                                (try clear hb)
                                (try clear hb2)
                                (try clear hk)
                                (try clear hi)
                                refine hK.out _ _ ⟨(qA BK456.out 0).trans rfl, (qA BK456.out 1).trans rfl, (qA BK456.out 2).trans rfl, (qA BK456.out 3).trans rfl, (qA BK403.out 0).trans rfl, (qA BK403.out 1).trans rfl, (qA BK403.out 2).trans rfl, (qA BK403.out 3).trans rfl, (qA BK412.out 0).trans rfl, (qA BK412.out 1).trans rfl, (qA BK412.out 2).trans rfl, (qA BK412.out 3).trans rfl, HS12_⟩ (fun hHeld => ?_)
                                clear hK K
                                refine norm_ (a' := ?_) ?_ ?_
                                rotate_left
                                · show Act.put _ (some 81) _ = _
                                  simp only [Act.put, List.setIfInBounds_toArray, List.set_cons_zero, List.set_cons_succ, i64_w, i32_w]
                                  rfl
                                refine pure_ (i := 6) (N := some 82) (v := ?_) (a' := ?_) #[true, true, true, true, true, true, true, false, false, false, false, false, false, false, false, false, false, false] rfl rfl (zK HT_.out (by kernel_rfl)) (fun _ _ _ h => h) (Or.inl ⟨by rfl, ?_⟩) ?_ ?_
                                rotate_left
                                · intro w'
                                  go_simp
                                  with_reducible rfl
                                rotate_left
                                · simp only [Act.put, List.setIfInBounds_toArray, List.set_cons_zero, List.set_cons_succ, i64_w, i32_w]
                                  rfl
                                refine pure_ (i := 7) (N := some 83) (v := ?_) (a' := ?_) #[true, true, true, true, true, true, true, true, false, false, false, false, false, false, false, false, false, false] rfl rfl (zK HT_.out (by kernel_rfl)) (fun _ _ _ h => h) (Or.inl ⟨by rfl, ?_⟩) ?_ ?_
                                rotate_left
                                · intro w'
                                  go_simp
                                  with_reducible rfl
                                rotate_left
                                · simp only [Act.put, List.setIfInBounds_toArray, List.set_cons_zero, List.set_cons_succ, i64_w, i32_w]
                                  rfl
                                refine pure_ (i := 8) (N := some 84) (v := ?_) (a' := ?_) #[true, true, true, true, true, true, true, true, true, false, false, false, false, false, false, false, false, false] rfl rfl (zK HT_.out (by kernel_rfl)) (fun _ _ _ h => h) (Or.inl ⟨by rfl, ?_⟩) ?_ ?_
                                rotate_left
                                · intro w'
                                  go_simp
                                  with_reducible rfl
                                rotate_left
                                · simp only [Act.put, List.setIfInBounds_toArray, List.set_cons_zero, List.set_cons_succ, i64_w, i32_w]
                                  rfl
                                refine pure_ (i := 10) (N := some 86) (v := ?_) (a' := ?_) #[true, true, true, true, true, true, true, true, true, false, true, false, false, false, false, false, false, false] rfl rfl (zK HT_.out (by kernel_rfl)) (fun _ _ _ h => h) (Or.inl ⟨by rfl, ?_⟩) ?_ ?_
                                rotate_left
                                · intro w'
                                  go_simp
                                  with_reducible rfl
                                rotate_left
                                · simp only [Act.put, List.setIfInBounds_toArray, List.set_cons_zero, List.set_cons_succ, i64_w, i32_w]
                                  rfl
                                refine pure_ (i := 14) (N := some 90) (v := ?_) (a' := ?_) #[true, true, true, true, true, true, true, true, true, false, true, false, false, false, true, false, false, false] rfl rfl (zK HT_.out (by kernel_rfl)) (fun _ _ _ h => h) (Or.inl ⟨by rfl, ?_⟩) ?_ ?_
                                rotate_left
                                · intro w'
                                  go_simp
                                  with_reducible rfl
                                rotate_left
                                · simp only [Act.put, List.setIfInBounds_toArray, List.set_cons_zero, List.set_cons_succ, i64_w, i32_w]
                                  rfl
                                refine take_ (i := 9) (N := some 85) (v := ?_) (a' := ?_) #[true, true, true, true, true, true, true, true, true, true, true, false, false, false, true, false, false, false] rfl rfl (zN HT_.out HW_.out (by kernel_rfl)) (fun _ _ _ h => h) (Or.inl ⟨by rfl, ?_⟩) hHeld ?_ ?_
                                rotate_left
                                · rintro w' ⟨s0, s1, s2, s3, s4, s5, s6, s7, s8, s9, s10, s11, s12⟩
                                  go_simp
                                  with_reducible rfl
                                rotate_left
                                · simp only [Act.put, List.setIfInBounds_toArray, List.set_cons_zero, List.set_cons_succ, i64_w, i32_w]
                                  rfl
                                refine pure_ (i := 11) (N := some 87) (v := ?_) (a' := ?_) #[true, true, true, true, true, true, true, true, true, true, true, true, false, false, true, false, false, false] rfl rfl (zK HT_.out (by kernel_rfl)) (fun _ _ _ h => h) (Or.inl ⟨by rfl, ?_⟩) ?_ ?_
                                rotate_left
                                · intro w'
                                  go_simp
                                  with_reducible rfl
                                rotate_left
                                · simp only [Act.put, List.setIfInBounds_toArray, List.set_cons_zero, List.set_cons_succ, i64_w, i32_w]
                                  rfl
                                refine take_ (i := 12) (N := some 88) (v := ?_) (a' := ?_) #[true, true, true, true, true, true, true, true, true, true, true, true, true, false, true, false, false, false] rfl rfl (zN HT_.out HW_.out (by kernel_rfl)) (fun _ _ _ h => h) (Or.inl ⟨by rfl, ?_⟩) hHeld ?_ ?_
                                rotate_left
                                · rintro w' ⟨s0, s1, s2, s3, s4, s5, s6, s7, s8, s9, s10, s11, s12⟩
                                  go_simp
                                  with_reducible rfl
                                rotate_left
                                · simp only [Act.put, List.setIfInBounds_toArray, List.set_cons_zero, List.set_cons_succ, i64_w, i32_w]
                                  rfl
                                refine take_ (i := 13) (N := some 89) (v := ?_) (a' := ?_) #[true, true, true, true, true, true, true, true, true, true, true, true, true, true, true, false, false, false] rfl rfl (zN HT_.out HW_.out (by kernel_rfl)) (fun _ _ _ h => h) (Or.inl ⟨by rfl, ?_⟩) hHeld ?_ ?_
                                rotate_left
                                · rintro w' ⟨s0, s1, s2, s3, s4, s5, s6, s7, s8, s9, s10, s11, s12⟩
                                  go_simp
                                  with_reducible rfl
                                rotate_left
                                · simp only [Act.put, List.setIfInBounds_toArray, List.set_cons_zero, List.set_cons_succ, i64_w, i32_w]
                                  rfl
                                refine one_ (i := 15) (N := some 91) #[true, true, true, true, true, true, true, true, true, true, true, true, true, true, true, true, false, false] rfl rfl (zR HT_.out (by kernel_rfl)) (by decide) (fun K hK => ?_)
                                refine goes_ Try.func21 (by kernel_rfl) rfl #[.agg #[.slice Ao11 t395.length co11, .slice Ao13 t398.length co13, .int .i64 t401, .int .i64 t402], .int .i64 x12_4] (by rfl) rfl rfl (by (try simp only [List.map_toArray, List.map_cons, List.map_nil]); first | done | rfl | (simp only [List.length_drop, List.length_take]; rfl)) ?_
                                with_reducible refine (impl_DiskRead.calls _ _ t395 _ _ t398 t401 t402 x12_4 t460 _ ?side1 ?side2 ?side3 ?side4 A87.out).mono ?_
                                (case side1 => repeat (first | exact (Kd.zO HO_404000.out).2.2 | (with_reducible refine Kd.zC ?_ _) | (with_reducible refine Kd.zD ?_ _) | (with_reducible refine Kd.zH ?_)))
                                (case side2 => exact (Kd.zO HO_404000.out).2.1)
                                (case side3 => repeat (first | exact (Kd.zA HO_404001.out).2.2 | (with_reducible refine Kd.zC ?_ _) | (with_reducible refine Kd.zD ?_ _) | (with_reducible refine Kd.zH ?_)))
                                (case side4 => exact (Kd.zA HO_404001.out).2.1)
                                rintro e w92 ⟨rfl, hb⟩
                                have HS12_ := (hb.cell (World.block_lt_of_cell? _ _ (hHeld.2.2.2.2.2.2.2.2.2.2.2.2))).trans (hHeld.2.2.2.2.2.2.2.2.2.2.2.2)
                                refine ⟨_, rfl, ?_⟩
                                have n0_ := Aside0.mk (Kd.zP (qw_ HO_404000.out) hb)
                                have n1_ := Aside0.mk (Kd.qU (rw_ HO_404001.out) hb)
                                have n2_ := Aside0.mk (Kd.zP (qw_ HO_413000.out) hb)
                                have n3_ := Aside0.mk (Kd.qU (rw_ HO_413001.out) hb)
                                have n4_ := Aside0.mk (Kd.zP (qw_ HO_448000.out) hb)
                                have n5_ := Aside0.mk (Kd.qU (rw_ HO_448001.out) hb)
                                have n6_ := Aside0.mk (Kd.zP (qw_ HO_457000.out) hb)
                                have n7_ := Aside0.mk (Kd.qU (rw_ HO_457001.out) hb)
                                have n8_ := Aside0.mk (qJ (g := gb403) (o := .cells #[.slice Ao11 t395.length co11, .slice Ao13 t398.length co13, .int .i64 t401, .int .i64 t402] 26 (0, 0)) (bw_ BK403.out) hb)
                                have n9_ := Aside0.mk (qJ (g := gb412) (o := .cells #[.slice (some ad459) t404.length co16, .slice Ao19 t407.length co19, .int .i64 t410, .int .i64 t411] 26 (0, 0)) (bw_ BK412.out) hb)
                                have n10_ := Aside0.mk (qJ (g := gb447) (o := .cells #[.slice Ao63 t436.length co63, .slice Ao67 t439.length co67, .int .i64 t442, .int .i64 t443] 26 (0, 0)) (bw_ BK447.out) hb)
                                have n11_ := Aside0.mk (qJ (g := gb456) (o := .cells #[.slice Ao75 t448.length co75, .slice Ao80 t451.length co80, .int .i64 t454, .int .i64 t455] 26 (0, 0)) (bw_ BK456.out) hb)
                                have n12_ := Aside0.mk (qN (by repeat (first | (with_reducible first | exact HB.out | apply qF | apply qC | apply qE | refine qB ?_ GE403.out | refine qB ?_ GE412.out | refine qB ?_ GE447.out | refine qB ?_ GE456.out) | exact HB.out)) hb)
                                clear HO_404000
                                clear HO_404001
                                clear HO_413000
                                clear HO_413001
                                clear HO_448000
                                clear HO_448001
                                clear HO_457000
                                clear HO_457001
                                clear BK403
                                clear BK412
                                clear BK447
                                clear BK456
                                clear HB
                                have HO_404000 := n0_
                                have HO_404001 := n1_
                                have HO_413000 := n2_
                                have HO_413001 := n3_
                                have HO_448000 := n4_
                                have HO_448001 := n5_
                                have HO_457000 := n6_
                                have HO_457001 := n7_
                                have BK403 := n8_
                                have BK412 := n9_
                                have BK447 := n10_
                                have BK456 := n11_
                                have HB := n12_
                                clear n0_ n1_ n2_ n3_ n4_ n5_ n6_ n7_ n8_ n9_ n10_ n11_ n12_
                                (try clear hb)
                                (try clear hb2)
                                (try clear hk)
                                (try clear hi)
                                refine hK.out _ _ ⟨(qA BK456.out 0).trans rfl, (qA BK456.out 1).trans rfl, (qA BK456.out 2).trans rfl, (qA BK456.out 3).trans rfl, (qA BK403.out 0).trans rfl, (qA BK403.out 1).trans rfl, (qA BK403.out 2).trans rfl, (qA BK403.out 3).trans rfl, (qA BK412.out 0).trans rfl, (qA BK412.out 1).trans rfl, (qA BK412.out 2).trans rfl, (qA BK412.out 3).trans rfl, HS12_⟩ (fun hHeld => ?_)
                                clear hK K
                                refine norm_ (a' := ?_) ?_ ?_
                                rotate_left
                                · show Act.put _ (some 91) _ = _
                                  simp only [Act.put, List.setIfInBounds_toArray, List.set_cons_zero, List.set_cons_succ, i64_w, i32_w]
                                  rfl
                                refine pure_ (i := 16) (N := some 92) (v := ?_) (a' := ?_) #[true, true, true, true, true, true, true, true, true, true, true, true, true, true, true, true, true, false] rfl rfl (zK HT_.out (by kernel_rfl)) (fun _ _ _ h => h) (Or.inl ⟨by rfl, ?_⟩) ?_ ?_
                                rotate_left
                                · intro w'
                                  go_simp
                                  with_reducible rfl
                                rotate_left
                                · simp only [Act.put, List.setIfInBounds_toArray, List.set_cons_zero, List.set_cons_succ, i64_w, i32_w]
                                  rfl
                                refine pure_ (i := 17) (N := some 93) (v := ?_) (a' := ?_) #[true, true, true, true, true, true, true, true, true, true, true, true, true, true, true, true, true, true] rfl rfl (zK HT_.out (by kernel_rfl)) (fun _ _ _ h => h) (Or.inl ⟨by rfl, ?_⟩) ?_ ?_
                                rotate_left
                                · intro w'
                                  go_simp
                                  with_reducible rfl
                                rotate_left
                                · simp only [Act.put, List.setIfInBounds_toArray, List.set_cons_zero, List.set_cons_succ, i64_w, i32_w]
                                  rfl
                                refine done_ (done_of HT_.out (by kernel_rfl)) ?_
                                try go_wp2
                                go_roundg k4
                                case measure => have := HJ2.out; have := HJ7.out; have := HJ59.out; have := HK4.out; omega
                                case rel => exact ⟨(wrap64 (x12_4 + 1)), (by first | rfl | (simp; done) | (simp [*]; done)), H', ⟨by have := HJ2.out; have := HJ7.out; have := HJ59.out; have := HK4.out; omega⟩, ⟨by (with_reducible repeat (first | apply Kd.zW | apply Kd.zX | apply Kd.zS)); exact HO_404000.out⟩, ⟨by (with_reducible repeat (first | apply Kd.qX | apply Kd.qV | apply Kd.qW)); exact HO_404001.out⟩, ⟨by (with_reducible repeat (first | apply Kd.zW | apply Kd.zX | apply Kd.zS)); exact HO_413000.out⟩, ⟨by (with_reducible repeat (first | apply Kd.qX | apply Kd.qV | apply Kd.qW)); exact HO_413001.out⟩, ⟨by (with_reducible repeat (first | apply Kd.zW | apply Kd.zX | apply Kd.zS)); exact HO_448000.out⟩, ⟨by (with_reducible repeat (first | apply Kd.qX | apply Kd.qV | apply Kd.qW)); exact HO_448001.out⟩, ⟨by (with_reducible repeat (first | apply Kd.zW | apply Kd.zX | apply Kd.zS)); exact HO_457000.out⟩, ⟨by (with_reducible repeat (first | apply Kd.qX | apply Kd.qV | apply Kd.qW)); exact HO_457001.out⟩, ⟨by (with_reducible repeat (first | refine qH ?_ _ | refine qI ?_ | refine qG ?_ _)); exact BK403.out⟩, ⟨by (with_reducible repeat (first | refine qH ?_ _ | refine qI ?_ | refine qG ?_ _)); exact BK412.out⟩, ⟨by (with_reducible repeat (first | refine qH ?_ _ | refine qI ?_ | refine qG ?_ _)); exact BK447.out⟩, ⟨by (with_reducible repeat (first | refine qH ?_ _ | refine qI ?_ | refine qG ?_ _)); exact BK456.out⟩, ⟨by repeat (first | (with_reducible first | exact HB.out | apply qF | apply qC | apply qE | refine qB ?_ GE403.out | refine qB ?_ GE412.out | refine qB ?_ GE447.out | refine qB ?_ GE456.out) | exact HB.out)⟩⟩
                              · rw [if_neg c88] at H
                                have c88b0 : ((rdOf ByteArray.empty t404 x12_4).toList == t460.toList) = false := beq_eq_false_iff_ne.mpr c88
                                have c88b1 : ((rdOf ByteArray.empty t404 x12_4).toList != t460.toList) = true := bne_iff_ne.mpr c88
                                exact absurd H (by simp)
                            · rw [if_neg c86] at H
                              exact absurd H (by simp)
                          · rw [if_neg c85] at H
                            exact absurd H (by simp)
                        · rw [if_neg c84] at H
                          have c84b0 : (t457.toList == t458.toList) = false := beq_eq_false_iff_ne.mpr c84
                          have c84b1 : (t457.toList != t458.toList) = true := bne_iff_ne.mpr c84
                          exact absurd H (by simp)
                      · rw [if_neg c81] at H
                        have c81b0 : decide (x12_4 < 42) = false := decide_eq_false c81
                        clear c81
                        have HT_ : ((t407.length : Int) == 0) = true := Option.some.inj H
                        clear H
                        have hnb93 := NB412_403.out
                        have hnc93 := NB403_412.out
                        have hnb94 := NB412_447.out
                        have hnc94 := NB447_412.out
                        have hnb95 := NB412_456.out
                        have hnc95 := NB456_412.out
                        have hcz96_0 : wr.cell? ⟨gb412, 0, none⟩ = some (.slice Ao16 t404.length co16) := (qA BK412.out 0).trans rfl
                        have hcz96_1 : wr.cell? ⟨gb412, 1, none⟩ = some (.slice Ao19 t407.length co19) := (qA BK412.out 1).trans rfl
                        have hcz96_2 : wr.cell? ⟨gb412, 2, none⟩ = some (.int .i64 t410) := (qA BK412.out 2).trans rfl
                        have hcz96_3 : wr.cell? ⟨gb412, 3, none⟩ = some (.int .i64 t411) := (qA BK412.out 3).trans rfl
                        have hfz96_0 := qD BK412.out 0
                        have hfz96_1 := qD BK412.out 1
                        have hfz96_2 := qD BK412.out 2
                        have hfz96_3 := qD BK412.out 3
                        go_wp2
                        go_ret
                        exact ⟨by first | rfl | (simp [errW_none, errW_some] <;> rfl) | (simp [*, errW_none, errW_some] <;> rfl), by repeat (first | (with_reducible first | exact HB.out | apply qF | apply qC | apply qE | refine qB ?_ GE403.out | refine qB ?_ GE412.out | refine qB ?_ GE447.out | refine qB ?_ GE456.out) | exact HB.out)⟩

/-- THE ONE PURE STATEMENT of laws_FnDiskSync: yours. -/
def laws_FnDiskSync.Pure : Prop := ∀ (l0 : List Int) (l1 : List Int), l0.length ≤ maxLen → l0.length * 1 ≤ 140737488351232 → (∀ x ∈ l0, (Lit.int .u8 x).wf = true) → l1.length ≤ maxLen → l1.length * 1 ≤ 140737488351232 → (∀ x ∈ l1, (Lit.int .u8 x).wf = true) → ∃ k, laws_FnDiskSync.f k l0 l1 = some true
theorem laws_FnDiskSync.walk (P : laws_FnDiskSync.Pure) (a0 : Option Addr) (len0 cap0 : Nat) (z0 : List Int) (a1 : Option Addr) (len1 cap1 : Nat) (z1 : List Int) (w : World) (w0 : (a0 = none ∧ len0 = 0 ∧ cap0 = 0 ∧ z0 = []) ∨ ∃ x, a0 = some x ∧ len0 ≤ cap0 ∧ cap0 ≤ maxLen ∧ z0.length = cap0 ∧ (∀ i, i < z0.length → w.cell? (x.add i) = some (.int .u8 (z0.getD i 0))) ∧ ∀ n ∈ z0, (Lit.int .u8 n).wf = true) (y0 : len0 * 1 ≤ 140737488351232) (w1 : (a1 = none ∧ len1 = 0 ∧ cap1 = 0 ∧ z1 = []) ∨ ∃ x, a1 = some x ∧ len1 ≤ cap1 ∧ cap1 ≤ maxLen ∧ z1.length = cap1 ∧ (∀ i, i < z1.length → w.cell? (x.add i) = some (.int .u8 (z1.getD i 0))) ∧ ∀ n ∈ z1, (Lit.int .u8 n).wf = true) (y1 : len1 * 1 ≤ 140737488351232) :
    Calls Try.prog 8 #[.slice a0 len0 cap0, .slice a1 len1 cap1] w fun e w' => e = .returned (.bool true) ∧ Below w.heap.size w w' := by
  obtain ⟨l0, rfl, hr0, hm0, hw0, hc0⟩ := ReadsInt.ofRowC w0
  obtain ⟨l1, rfl, hr1, hm1, hw1, hc1⟩ := ReadsInt.ofRowC w1
  obtain ⟨k, h⟩ := P l0 l1 hm0 y0 hw0 hm1 y1 hw1
  refine (laws_FnDiskSync.calls k _ _ l0 _ _ l1 w (Kd.C_of_reads (d := (0 : Int)) (h1 := fun _ => rfl) hr0) hc0 (Kd.C_of_reads (d := (0 : Int)) (h1 := fun _ => rfl) hr1) hc1 h).mono ?_
  rintro e w' ⟨rfl, hd⟩
  exact ⟨rfl, hd⟩

end Go.Proofs.Ytepihebkdnmppaa.Ak
