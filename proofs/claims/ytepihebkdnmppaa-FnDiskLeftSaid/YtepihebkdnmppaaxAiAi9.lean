/- Walks of the seat's functions, written by a program of this session (xprint.py) with the kit's printer: each call comes to just what its Lean function says. -/
import Derived.Test.YtepihebkdnmppaaxAiAi0
import Derived.Test.YtepihebkdnmppaaxAiAi6
import Derived.Test.YtepihebkdnmppaaxAiAi7
import Derived.Test.YtepihebkdnmppaaxAiAi8
namespace Go.Proofs.Ytepihebkdnmppaa.Ai
open Go.RowKit Go.Proofs.YtepihebkdnmppaaV.PrintWords Go.Proofs.YtepihebkdnmppaaV.PrintLast Go.Proofs.YtepihebkdnmppaaV.PrintMore
attribute [local go_sem] max2_int min2_int max_two min_two max_three min_three max_four min_four   -- for this text's walks alone
attribute [local go_sem high] World.zS
set_option linter.unusedVariables false
set_option linter.unusedSimpArgs false

/-! ### laws_FnDiskLeft: function 6 -/
mutual
def laws_FnDiskLeft.j0 : Nat → Int → Int → Bool → List ByteArray → List (S70) → Int → Int → List ByteArray → List (S70) → Int → Int → Option (Bool)
  | 0, _, _, _, _, _, _, _, _, _, _, _ => none
  | k + 1, x4, x5, x49, x366000, x366001, x366002, x366003, x375000, x375001, x375002, x375003 => if x49 = true then ((spec_DiskSet.f k x366000 x366001 x366002 x366003 x4 x5).bind fun bt385 => ((laws_jtDisk.f k x375000 x375001 x375002 x375003 bt385.1 bt385.2.1 bt385.2.2.1 bt385.2.2.2).bind fun t393 => (some t393))) else (laws_FnDiskLeft.l0 k x5 0 x375000 x375001 x375002 x375003)
def laws_FnDiskLeft.l0 : Nat → Int → Int → List ByteArray → List (S70) → Int → Int → Option (Bool)
  | 0, _, _, _, _, _, _ => none
  | k + 1, x5, x7, x375000, x375001, x375002, x375003 => if x7 < x5 then ((impl_DiskSync.f x375000 x375001 x375002 x375003).bind fun bt394 => (if bt394.2.2.2 = (wrap64 ((wrap64 (x5 - x7)) - 1)) then (if (bt394.2.1.length : Int) > 0 then (some false) else (laws_FnDiskLeft.l0 k x5 (wrap64 (x7 + 1)) bt394.1 bt394.2.1 bt394.2.2.1 bt394.2.2.2)) else (some false))) else ((impl_DiskWrite.f x375000 x375001 x375002 x375003 3 (⟨#[108, 97, 116, 101]⟩ : ByteArray)).bind fun bt403 => (if bt403.2.2.2.2 = true then ((laws_jtDisk.f k bt403.1 bt403.2.1 bt403.2.2.1 bt403.2.2.2.1 x375000 x375001 x375002 x375003).bind fun t413 => (if t413 = true then ((impl_DiskSync.f x375000 x375001 x375002 x375003).bind fun bt414 => ((laws_jtDisk.f k bt414.1 bt414.2.1 bt414.2.2.1 bt414.2.2.2 x375000 x375001 x375002 x375003).bind fun t422 => (some t422))) else (some false))) else (some false)))
end
def laws_FnDiskLeft.f (k : Nat) (l0 : List Int) : Option (Bool) := if (l0.length : Int) > 1048576 then (some true) else ((spec_DrawDiskSet.f k l0).bind fun bt355 => ((impl_DiskSet.f bt355.1 bt355.2.1 bt355.2.2.1 bt355.2.2.2.1 bt355.2.2.2.2.1 bt355.2.2.2.2.2).bind fun bt366 => ((spec_DiskSet.f k bt355.1 bt355.2.1 bt355.2.2.1 bt355.2.2.2.1 bt355.2.2.2.2.1 bt355.2.2.2.2.2).bind fun bt375 => ((laws_jtDisk.f k bt366.1 bt366.2.1 bt366.2.2.1 bt366.2.2.2 bt375.1 bt375.2.1 bt375.2.2.1 bt375.2.2.2).bind fun t383 => (if t383 = true then ((spec_DiskOk.f k bt355.1 bt355.2.1 bt355.2.2.1 bt355.2.2.2.1).bind fun t384 => (if t384 = true then (if bt355.2.2.2.2.1 < (-1) then (laws_FnDiskLeft.j0 k bt355.2.2.2.2.1 bt355.2.2.2.2.2 true bt355.1 bt355.2.1 bt355.2.2.1 bt355.2.2.2.1 bt366.1 bt366.2.1 bt366.2.2.1 bt366.2.2.2) else (if bt355.2.2.2.2.2 < 0 then (laws_FnDiskLeft.j0 k bt355.2.2.2.2.1 bt355.2.2.2.2.2 true bt355.1 bt355.2.1 bt355.2.2.1 bt355.2.2.2.1 bt366.1 bt366.2.1 bt366.2.2.1 bt366.2.2.2) else (laws_FnDiskLeft.j0 k bt355.2.2.2.2.1 bt355.2.2.2.2.2 (decide ((bt355.2.1.length : Int) > 50)) bt355.1 bt355.2.1 bt355.2.2.1 bt355.2.2.2.1 bt366.1 bt366.2.1 bt366.2.2.1 bt366.2.2.2))) else (laws_FnDiskLeft.j0 k bt355.2.2.2.2.1 bt355.2.2.2.2.2 true bt355.1 bt355.2.1 bt355.2.2.1 bt355.2.2.2.1 bt366.1 bt366.2.1 bt366.2.2.1 bt366.2.2.2))) else (none))))))
theorem laws_FnDiskLeft.mono_l : ∀ k, (∀ y0 y1 y2 y3 y4 y5 y6 y7 y8 y9 y10, LeO (laws_FnDiskLeft.j0 k y0 y1 y2 y3 y4 y5 y6 y7 y8 y9 y10) (laws_FnDiskLeft.j0 (k + 1) y0 y1 y2 y3 y4 y5 y6 y7 y8 y9 y10)) ∧ (∀ y0 y1 y2 y3 y4 y5, LeO (laws_FnDiskLeft.l0 k y0 y1 y2 y3 y4 y5) (laws_FnDiskLeft.l0 (k + 1) y0 y1 y2 y3 y4 y5))
  | 0 => ⟨fun _ _ _ _ _ _ _ _ _ _ _ r h => by simp [laws_FnDiskLeft.j0] at h, fun _ _ _ _ _ _ r h => by simp [laws_FnDiskLeft.l0] at h⟩
  | k + 1 => by
    obtain ⟨ih0, ih1⟩ := laws_FnDiskLeft.mono_l k
    refine ⟨?_, ?_⟩
    · intro y0 y1 y2 y3 y4 y5 y6 y7 y8 y9 y10
      unfold laws_FnDiskLeft.j0
      repeat' first
      | (with_reducible exact ih0 _ _ _ _ _ _ _ _ _ _ _)
      | (with_reducible exact ih1 _ _ _ _ _ _)
      | (with_reducible exact laws_jtDisk.mono _ _ _ _ _ _ _ _ _)
      | (with_reducible exact spec_DiskOk.mono _ _ _ _ _)
      | (with_reducible exact spec_DiskSet.mono _ _ _ _ _ _ _)
      | (with_reducible exact spec_DrawDiskSet.mono _ _)
      | (with_reducible exact LeO.refl _)
      | (with_reducible exact LeO.none _)
      | (with_reducible refine LeO.ite ?_ ?_)
      | (with_reducible refine LeO.bind ?_ (fun _ => ?_))
      | exact ih0 _ _ _ _ _ _ _ _ _ _ _
      | exact ih1 _ _ _ _ _ _
      | exact laws_jtDisk.mono _ _ _ _ _ _ _ _ _
      | exact spec_DiskOk.mono _ _ _ _ _
      | exact spec_DiskSet.mono _ _ _ _ _ _ _
      | exact spec_DrawDiskSet.mono _ _
      | exact LeO.none _
      | refine LeO.ite ?_ ?_
      | refine LeO.bind ?_ (fun _ => ?_)
    · intro y0 y1 y2 y3 y4 y5
      unfold laws_FnDiskLeft.l0
      repeat' first
      | (with_reducible exact ih0 _ _ _ _ _ _ _ _ _ _ _)
      | (with_reducible exact ih1 _ _ _ _ _ _)
      | (with_reducible exact laws_jtDisk.mono _ _ _ _ _ _ _ _ _)
      | (with_reducible exact spec_DiskOk.mono _ _ _ _ _)
      | (with_reducible exact spec_DiskSet.mono _ _ _ _ _ _ _)
      | (with_reducible exact spec_DrawDiskSet.mono _ _)
      | (with_reducible exact LeO.refl _)
      | (with_reducible exact LeO.none _)
      | (with_reducible refine LeO.ite ?_ ?_)
      | (with_reducible refine LeO.bind ?_ (fun _ => ?_))
      | exact ih0 _ _ _ _ _ _ _ _ _ _ _
      | exact ih1 _ _ _ _ _ _
      | exact laws_jtDisk.mono _ _ _ _ _ _ _ _ _
      | exact spec_DiskOk.mono _ _ _ _ _
      | exact spec_DiskSet.mono _ _ _ _ _ _ _
      | exact spec_DrawDiskSet.mono _ _
      | exact LeO.none _
      | refine LeO.ite ?_ ?_
      | refine LeO.bind ?_ (fun _ => ?_)
theorem laws_FnDiskLeft.mono : ∀ a0 k, LeO (laws_FnDiskLeft.f k a0) (laws_FnDiskLeft.f (k + 1) a0) := by
  intro a0 k
  obtain ⟨ih0, ih1⟩ := laws_FnDiskLeft.mono_l k
  unfold laws_FnDiskLeft.f
  repeat' first
      | (with_reducible exact ih0 _ _ _ _ _ _ _ _ _ _ _)
      | (with_reducible exact ih1 _ _ _ _ _ _)
      | (with_reducible exact laws_jtDisk.mono _ _ _ _ _ _ _ _ _)
      | (with_reducible exact spec_DiskOk.mono _ _ _ _ _)
      | (with_reducible exact spec_DiskSet.mono _ _ _ _ _ _ _)
      | (with_reducible exact spec_DrawDiskSet.mono _ _)
      | (with_reducible exact LeO.refl _)
      | (with_reducible exact LeO.none _)
      | (with_reducible refine LeO.ite ?_ ?_)
      | (with_reducible refine LeO.bind ?_ (fun _ => ?_))
      | exact ih0 _ _ _ _ _ _ _ _ _ _ _
      | exact ih1 _ _ _ _ _ _
      | exact laws_jtDisk.mono _ _ _ _ _ _ _ _ _
      | exact spec_DiskOk.mono _ _ _ _ _
      | exact spec_DiskSet.mono _ _ _ _ _ _ _
      | exact spec_DrawDiskSet.mono _ _
      | exact LeO.none _
      | refine LeO.ite ?_ ?_
      | refine LeO.bind ?_ (fun _ => ?_)
def laws_FnDiskLeft.T5 : Bool × List (List Nat × List Nat) := (true, [([], []), ([], []), ([], []), ([], []), ([1, 2, 3], [1, 2, 3]), ([0, 4, 4], [0, 4]), ([5], [5]), ([6, 5], [6]), ([7], [7]), ([8, 7, 7], [7, 8]), ([9, 7], [7, 9]), ([7, 10], [7, 10]), ([11, 9], [11]), ([12], [12]), ([13, 12], [12, 13]), ([12, 14], [12, 14]), ([15, 12], [15]), ([16], [16]), ([17, 16], [16, 17]), ([16, 18], [16, 18]), ([19, 16], [19]), ([20], [20]), ([21, 20], [20, 21]), ([22, 20], [20, 22]), ([23, 20], [20, 23]), ([20, 24], [20, 24])])
def laws_FnDiskLeft.B5 : List Nat := [0, 0, 0, 0, 14, 31, 63, 127, 255, 511, 1023, 2047, 4095, 8191, 16383, 32767, 65535, 131071, 262143, 524287, 1048575, 2097151, 4194303, 8388607, 16777215, 33554431]
theorem laws_FnDiskLeft.tab5 : rtab .any (opsOf Try.f6 5) = laws_FnDiskLeft.T5 := by kernel_rfl
theorem laws_FnDiskLeft.bits5 : waitsOk laws_FnDiskLeft.T5.2 laws_FnDiskLeft.B5 = true := by kernel_rfl
def laws_FnDiskLeft.T15 : Bool × List (List Nat × List Nat) := (true, [([], []), ([0], [0]), ([1], [1]), ([1], [1]), ([2, 3, 1, 1], [1, 2, 3]), ([1, 4], [1, 4]), ([5, 4], [5]), ([6], [6]), ([7, 6, 6], [6, 7]), ([6], [6]), ([8, 9, 8, 6], [6, 8, 9]), ([6, 10], [6, 10]), ([11, 10, 0, 1, 2, 3, 4, 5, 6, 7, 8, 9, 10, 11], [11])])
def laws_FnDiskLeft.B15 : List Nat := [0, 1, 3, 3, 15, 31, 63, 127, 255, 127, 1023, 2047, 4095]
theorem laws_FnDiskLeft.tab15 : rtab .any (opsOf Try.f6 15) = laws_FnDiskLeft.T15 := by kernel_rfl
theorem laws_FnDiskLeft.bits15 : waitsOk laws_FnDiskLeft.T15.2 laws_FnDiskLeft.B15 = true := by kernel_rfl
set_option maxHeartbeats 8000000 in
set_option maxRecDepth 100000 in
theorem laws_FnDiskLeft.calls (k : Nat) (A0 : Option Addr) (c0 : Nat) (l0 : List Int) (w : World) (hr0 : Kd.C (Kd.int .u8) w A0 l0.length l0) (hc0 : l0.length ≤ c0) (h : laws_FnDiskLeft.f k l0 = some true) :
    Calls Try.prog 6 #[.slice A0 l0.length c0] w fun e w' => e = .returned (.bool true) ∧ Below w.heap.size w w' := by
  have hu26 := Try.underlying26
  have HR0 := Aside0.mk hr0
  have HC0 := Aside0.mk hc0
  clear hr0 hc0
  have HB := Aside0.mk (Below.refl w.heap.size w)
  have H : (if (l0.length : Int) > 1048576 then (some true) else ((spec_DrawDiskSet.f k l0).bind fun bt355 => ((impl_DiskSet.f bt355.1 bt355.2.1 bt355.2.2.1 bt355.2.2.2.1 bt355.2.2.2.2.1 bt355.2.2.2.2.2).bind fun bt366 => ((spec_DiskSet.f k bt355.1 bt355.2.1 bt355.2.2.1 bt355.2.2.2.1 bt355.2.2.2.2.1 bt355.2.2.2.2.2).bind fun bt375 => ((laws_jtDisk.f k bt366.1 bt366.2.1 bt366.2.2.1 bt366.2.2.2 bt375.1 bt375.2.1 bt375.2.2.1 bt375.2.2.2).bind fun t383 => (if t383 = true then ((spec_DiskOk.f k bt355.1 bt355.2.1 bt355.2.2.1 bt355.2.2.2.1).bind fun t384 => (if t384 = true then (if bt355.2.2.2.2.1 < (-1) then (laws_FnDiskLeft.j0 k bt355.2.2.2.2.1 bt355.2.2.2.2.2 true bt355.1 bt355.2.1 bt355.2.2.1 bt355.2.2.2.1 bt366.1 bt366.2.1 bt366.2.2.1 bt366.2.2.2) else (if bt355.2.2.2.2.2 < 0 then (laws_FnDiskLeft.j0 k bt355.2.2.2.2.1 bt355.2.2.2.2.2 true bt355.1 bt355.2.1 bt355.2.2.1 bt355.2.2.2.1 bt366.1 bt366.2.1 bt366.2.2.1 bt366.2.2.2) else (laws_FnDiskLeft.j0 k bt355.2.2.2.2.1 bt355.2.2.2.2.2 (decide ((bt355.2.1.length : Int) > 50)) bt355.1 bt355.2.1 bt355.2.2.1 bt355.2.2.2.1 bt366.1 bt366.2.1 bt366.2.2.1 bt366.2.2.2))) else (laws_FnDiskLeft.j0 k bt355.2.2.2.2.1 bt355.2.2.2.2.2 true bt355.1 bt355.2.1 bt355.2.2.1 bt355.2.2.2.1 bt366.1 bt366.2.1 bt366.2.2.1 bt366.2.2.2))) else (none))))))) = some true := h
  clear h
  by_cases c2 : (l0.length : Int) > 1048576
  · rw [if_pos c2] at H
    have c2b0 : decide (1048576 < (l0.length : Int)) = true := decide_eq_true c2
    have c2b1 : decide (1048576 < l0.length) = true := decide_eq_true (by omega)
    clear c2
    have HT_ : true = true := Option.some.inj H
    clear H
    go_enter Try.func6, Try.ntmps6
    go_wp2
    go_ret
    exact ⟨by first | rfl | (simp [errW_none, errW_some] <;> rfl) | (simp [*, errW_none, errW_some] <;> rfl), by repeat (first | (with_reducible first | exact HB.out | apply qF | apply qB | apply qE) | exact HB.out)⟩
  · rw [if_neg c2] at H
    have c2b0 : decide (1048576 < (l0.length : Int)) = false := decide_eq_false c2
    have c2b1 : decide (1048576 < l0.length) = false := decide_eq_false (by omega)
    clear c2
    replace H := Option.bind_eq_some_iff.mp H
    obtain ⟨⟨t355, t358, t361, t362, t363, t364⟩, A30, H⟩ := H
    replace H : ((impl_DiskSet.f t355 t358 t361 t362 t363 t364).bind fun bt366 => ((spec_DiskSet.f k t355 t358 t361 t362 t363 t364).bind fun bt375 => ((laws_jtDisk.f k bt366.1 bt366.2.1 bt366.2.2.1 bt366.2.2.2 bt375.1 bt375.2.1 bt375.2.2.1 bt375.2.2.2).bind fun t383 => (if t383 = true then ((spec_DiskOk.f k t355 t358 t361 t362).bind fun t384 => (if t384 = true then (if t363 < (-1) then (laws_FnDiskLeft.j0 k t363 t364 true t355 t358 t361 t362 bt366.1 bt366.2.1 bt366.2.2.1 bt366.2.2.2) else (if t364 < 0 then (laws_FnDiskLeft.j0 k t363 t364 true t355 t358 t361 t362 bt366.1 bt366.2.1 bt366.2.2.1 bt366.2.2.2) else (laws_FnDiskLeft.j0 k t363 t364 (decide ((t358.length : Int) > 50)) t355 t358 t361 t362 bt366.1 bt366.2.1 bt366.2.2.1 bt366.2.2.2))) else (laws_FnDiskLeft.j0 k t363 t364 true t355 t358 t361 t362 bt366.1 bt366.2.1 bt366.2.2.1 bt366.2.2.2))) else (none))))) = some true := H
    have A3 := Aside0.mk A30
    clear A30
    replace H := Option.bind_eq_some_iff.mp H
    obtain ⟨⟨t366, t369, t372, t373⟩, A40, H⟩ := H
    replace H : ((spec_DiskSet.f k t355 t358 t361 t362 t363 t364).bind fun bt375 => ((laws_jtDisk.f k t366 t369 t372 t373 bt375.1 bt375.2.1 bt375.2.2.1 bt375.2.2.2).bind fun t383 => (if t383 = true then ((spec_DiskOk.f k t355 t358 t361 t362).bind fun t384 => (if t384 = true then (if t363 < (-1) then (laws_FnDiskLeft.j0 k t363 t364 true t355 t358 t361 t362 t366 t369 t372 t373) else (if t364 < 0 then (laws_FnDiskLeft.j0 k t363 t364 true t355 t358 t361 t362 t366 t369 t372 t373) else (laws_FnDiskLeft.j0 k t363 t364 (decide ((t358.length : Int) > 50)) t355 t358 t361 t362 t366 t369 t372 t373))) else (laws_FnDiskLeft.j0 k t363 t364 true t355 t358 t361 t362 t366 t369 t372 t373))) else (none)))) = some true := H
    have A4 := Aside0.mk A40
    clear A40
    have HC5 := Aside0.mk H
    clear H
    go_enter Try.func6, Try.ntmps6
    go_upto_region 5 with (first | ((with_reducible refine qV (f := 11) rfl ?_); refine zL (some 16) rfl rfl Try.func11 (by kernel_rfl) rfl #[.slice A0 l0.length c0] rfl (by (try simp only [List.map_toArray, List.map_cons, List.map_nil]); first | done | rfl | (simp only [List.length_drop, List.length_take]; rfl)) ?_; (with_reducible refine (spec_DrawDiskSet.calls k _ _ l0 t355 t358 t361 t362 t363 t364 _ ?side1 ?side2 A3.out).mono ?_); (case side1 => repeat (first | exact HR0.out | (with_reducible refine Kd.qX ?_ _) | (with_reducible refine Kd.qY ?_ _) | (with_reducible refine Kd.zC ?_))); (case side2 => exact HC0.out); rintro e w6 ⟨v356, v359, rfl, ho0, ho1, hb⟩; refine ⟨_, rfl, ?_⟩; have n0_ := Aside0.mk (Kd.Q_lower ho0 (qK (by repeat (first | (with_reducible first | exact HB.out | apply qF | apply qB | apply qE) | exact HB.out)))); have n1_ := Aside0.mk (Kd.zJ ho1 (qK (by repeat (first | (with_reducible first | exact HB.out | apply qF | apply qB | apply qE) | exact HB.out)))); have n2_ := Aside0.mk (qL (by repeat (first | (with_reducible first | exact HB.out | apply qF | apply qB | apply qE) | exact HB.out)) hb); clear HB; have HO357 := n0_; have HO360 := n1_; have HB := n2_; clear n0_ n1_ n2_; (try clear hb); (try clear hb2); (try clear hk); (try clear hi); (try clear ho0); (try clear ho1)) | ((with_reducible refine zA (N := 3) rfl ?_); refine qU ?hg (N := 3) ?hd (cs := #[.slice none 0 0, .slice none 0 0, .int .i64 0, .int .i64 0]) (t := 26) ?hr ?_; (case hd => rfl); (case hg => rfl); (case hr => first | (go_simp; done) | (go_simp; rfl)); intro gb365 hg w7 hbox hb; have n0_ := Aside0.mk (Kd.zU (qw_ HO357.out) hb); have n1_ := Aside0.mk (Kd.qZ (rw_ HO360.out) hb); have n2_ := Aside0.mk (qL (by repeat (first | (with_reducible first | exact HB.out | apply qF | apply qB | apply qE) | exact HB.out)) hb); have n3_ := Aside0.mk (hbox); have n4_ := Aside0.mk ((by rw [hg]; exact (qK (by repeat (first | (with_reducible first | exact HB.out | apply qF | apply qB | apply qE) | exact HB.out))) : w.heap.size ≤ gb365)); have n5_ := Aside0.mk ((by rw [hg]; exact (qK (by repeat (first | (with_reducible first | exact HB.out | apply qF | apply qB | apply qE) | exact HB.out))) : w.heap.size ≤ gb365)); clear HO357; clear HO360; clear HB; have HO357 := n0_; have HO360 := n1_; have HB := n2_; have BK365 := n3_; have GW365 := n4_; have GE365 := n5_; clear n0_ n1_ n2_ n3_ n4_ n5_; clear hb hbox hg; obtain ⟨Ao8, co8, eo8, _⟩ := Kd.Q_slice HO357.out; subst eo8; have hcz9_0 : w7.cell? ⟨gb365, 0, none⟩ = some (.slice none 0 0) := (qA BK365.out 0).trans rfl; have hcz9_1 : w7.cell? ⟨gb365, 1, none⟩ = some (.slice none 0 0) := (qA BK365.out 1).trans rfl; have hcz9_2 : w7.cell? ⟨gb365, 2, none⟩ = some (.int .i64 0) := (qA BK365.out 2).trans rfl; have hcz9_3 : w7.cell? ⟨gb365, 3, none⟩ = some (.int .i64 0) := (qA BK365.out 3).trans rfl; have hfz9_0 := qC BK365.out 0; have hfz9_1 := qC BK365.out 1; have hfz9_2 := qC BK365.out 2; have hfz9_3 := qC BK365.out 3; obtain ⟨Ao10, co10, eo10⟩ := Kd.zE HO360.out; subst eo10) | ((with_reducible refine qV (f := 12) rfl ?_); refine zL (some 23) rfl rfl Try.func12 (by kernel_rfl) rfl #[.agg #[.slice Ao8 t355.length co8, .slice Ao10 t358.length co10, .int .i64 t361, .int .i64 t362], .int .i64 t363, .int .i64 t364] rfl (by (try simp only [List.map_toArray, List.map_cons, List.map_nil]); first | done | rfl | (simp only [List.length_drop, List.length_take]; rfl)) ?_; (with_reducible refine (impl_DiskSet.calls _ _ t355 _ _ t358 t361 t362 t363 t364 t366 t369 t372 t373 _ ?side1 ?side2 ?side3 ?side4 A4.out).mono ?_); (case side1 => refine (Kd.zN (e := 9) (base := w.heap.size) (ok := fun k_ => True) (n := t355.length) (c := co8) ?_).2.2; exact (qw_ ((Kd.zX (Kd.Q_far (p := ⟨gb365, 3, none⟩) (Kd.Q_far (p := ⟨gb365, 2, none⟩) (Kd.Q_far (p := ⟨gb365, 1, none⟩) (Kd.Q_far (p := ⟨gb365, 0, none⟩) (Kd.xC HO357.out BK365.out (by decide)) (fun _ hk => hk.2) (.slice Ao8 t355.length co8)) (fun _ hk => hk.2) (.slice Ao10 t358.length co10)) (fun _ hk => hk.2) (.int .i64 t361)) (fun _ hk => hk.2) (.int .i64 t362)) (fun _ h_ => h_.1))))); (case side2 => exact (Kd.zN HO357.out).2.1); (case side3 => refine (Kd.qT (e := 70) (base := w.heap.size) (ok := fun k_ => True) (n := t358.length) (c := co10) ?_).2.2; exact (rw_ ((Kd.qS (Kd.R_far (p := ⟨gb365, 3, none⟩) (Kd.R_far (p := ⟨gb365, 2, none⟩) (Kd.R_far (p := ⟨gb365, 1, none⟩) (Kd.R_far (p := ⟨gb365, 0, none⟩) (Kd.qW HO360.out BK365.out (by decide)) (fun _ hk => hk.2) (.slice Ao8 t355.length co8)) (fun _ hk => hk.2) (.slice Ao10 t358.length co10)) (fun _ hk => hk.2) (.int .i64 t361)) (fun _ hk => hk.2) (.int .i64 t362)) (fun _ h_ => h_.1))))); (case side4 => exact (Kd.qT HO360.out).2.1); rintro e w11 ⟨v367, v370, rfl, ho0, ho1, hb⟩; refine ⟨_, rfl, ?_⟩; have n0_ := Aside0.mk (Kd.xD (qw_ ((Kd.zX (Kd.Q_far (p := ⟨gb365, 3, none⟩) (Kd.Q_far (p := ⟨gb365, 2, none⟩) (Kd.Q_far (p := ⟨gb365, 1, none⟩) (Kd.Q_far (p := ⟨gb365, 0, none⟩) (Kd.xC HO357.out BK365.out (by decide)) (fun _ hk => hk.2) (.slice Ao8 t355.length co8)) (fun _ hk => hk.2) (.slice Ao10 t358.length co10)) (fun _ hk => hk.2) (.int .i64 t361)) (fun _ hk => hk.2) (.int .i64 t362)) (fun _ h_ => h_.1)))) (Kd.zP ho0) hb); have n1_ := Aside0.mk (Kd.zO (rw_ ((Kd.qS (Kd.R_far (p := ⟨gb365, 3, none⟩) (Kd.R_far (p := ⟨gb365, 2, none⟩) (Kd.R_far (p := ⟨gb365, 1, none⟩) (Kd.R_far (p := ⟨gb365, 0, none⟩) (Kd.qW HO360.out BK365.out (by decide)) (fun _ hk => hk.2) (.slice Ao8 t355.length co8)) (fun _ hk => hk.2) (.slice Ao10 t358.length co10)) (fun _ hk => hk.2) (.int .i64 t361)) (fun _ hk => hk.2) (.int .i64 t362)) (fun _ h_ => h_.1)))) (Kd.zP ho1) hb); have n2_ := Aside0.mk (Kd.zJ (Kd.zR ho0 (Kd.Q_lt (qw_ ((Kd.zX (Kd.Q_far (p := ⟨gb365, 3, none⟩) (Kd.Q_far (p := ⟨gb365, 2, none⟩) (Kd.Q_far (p := ⟨gb365, 1, none⟩) (Kd.Q_far (p := ⟨gb365, 0, none⟩) (Kd.xC HO357.out BK365.out (by decide)) (fun _ hk => hk.2) (.slice Ao8 t355.length co8)) (fun _ hk => hk.2) (.slice Ao10 t358.length co10)) (fun _ hk => hk.2) (.int .i64 t361)) (fun _ hk => hk.2) (.int .i64 t362)) (fun _ h_ => h_.1)))))) (qK (by repeat (first | (with_reducible first | exact HB.out | apply qF | apply qB | apply qE | refine qD ?_ GE365.out) | exact HB.out)))); have n3_ := Aside0.mk (Kd.zJ (Kd.zR ho1 (Kd.R_lt (rw_ ((Kd.qS (Kd.R_far (p := ⟨gb365, 3, none⟩) (Kd.R_far (p := ⟨gb365, 2, none⟩) (Kd.R_far (p := ⟨gb365, 1, none⟩) (Kd.R_far (p := ⟨gb365, 0, none⟩) (Kd.qW HO360.out BK365.out (by decide)) (fun _ hk => hk.2) (.slice Ao8 t355.length co8)) (fun _ hk => hk.2) (.slice Ao10 t358.length co10)) (fun _ hk => hk.2) (.int .i64 t361)) (fun _ hk => hk.2) (.int .i64 t362)) (fun _ h_ => h_.1)))))) (qK (by repeat (first | (with_reducible first | exact HB.out | apply qF | apply qB | apply qE | refine qD ?_ GE365.out) | exact HB.out)))); have n4_ := Aside0.mk (qJ (g := gb365) (o := .cells #[.slice Ao8 t355.length co8, .slice Ao10 t358.length co10, .int .i64 t361, .int .i64 t362] 26 (0, 0)) (by (with_reducible repeat (first | refine qH ?_ _ | refine qI ?_ | refine qG ?_ _)); refine qO (cs := #[.slice Ao8 t355.length co8, .slice Ao10 t358.length co10, .int .i64 t361, .int .i64 0]) ?_ 3 _ rfl; (with_reducible repeat (first | refine qH ?_ _ | refine qI ?_ | refine qG ?_ _)); refine qO (cs := #[.slice Ao8 t355.length co8, .slice Ao10 t358.length co10, .int .i64 0, .int .i64 0]) ?_ 2 _ rfl; (with_reducible repeat (first | refine qH ?_ _ | refine qI ?_ | refine qG ?_ _)); refine qO (cs := #[.slice Ao8 t355.length co8, .slice none 0 0, .int .i64 0, .int .i64 0]) ?_ 1 _ rfl; (with_reducible repeat (first | refine qH ?_ _ | refine qI ?_ | refine qG ?_ _)); refine qO (cs := #[.slice none 0 0, .slice none 0 0, .int .i64 0, .int .i64 0]) ?_ 0 _ rfl; (with_reducible repeat (first | refine qH ?_ _ | refine qI ?_ | refine qG ?_ _)); exact BK365.out) hb); have n5_ := Aside0.mk (qL (by repeat (first | (with_reducible first | exact HB.out | apply qF | apply qB | apply qE | refine qD ?_ GE365.out) | exact HB.out)) hb); clear HO357; clear HO360; clear BK365; clear HB; have HO357 := n0_; have HO360 := n1_; have HO368 := n2_; have HO371 := n3_; have BK365 := n4_; have HB := n5_; clear n0_ n1_ n2_ n3_ n4_ n5_; (try clear hb); (try clear hb2); (try clear hk); (try clear hi); (try clear ho0); (try clear ho1)) | ((with_reducible refine zA (N := 6) rfl ?_); refine qU ?hg (N := 6) ?hd (cs := #[.slice none 0 0, .slice none 0 0, .int .i64 0, .int .i64 0]) (t := 26) ?hr ?_; (case hd => rfl); (case hg => rfl); (case hr => first | (go_simp; done) | (go_simp; rfl)); intro gb374 hg w12 hbox hb; have n0_ := Aside0.mk (Kd.zU (qw_ HO357.out) hb); have n1_ := Aside0.mk (Kd.qZ (rw_ HO360.out) hb); have n2_ := Aside0.mk (Kd.qZ (rw_ HO368.out) hb); have n3_ := Aside0.mk (Kd.qZ (rw_ HO371.out) hb); have n4_ := Aside0.mk (qJ (g := gb365) (o := .cells #[.slice Ao8 t355.length co8, .slice Ao10 t358.length co10, .int .i64 t361, .int .i64 t362] 26 (0, 0)) (bw_ BK365.out) hb); have n5_ := Aside0.mk (qL (by repeat (first | (with_reducible first | exact HB.out | apply qF | apply qB | apply qE | refine qD ?_ GE365.out) | exact HB.out)) hb); have n6_ := Aside0.mk (hbox); have n7_ := Aside0.mk ((by rw [hg]; exact (qK (by repeat (first | (with_reducible first | exact HB.out | apply qF | apply qB | apply qE | refine qD ?_ GE365.out) | exact HB.out))) : w.heap.size ≤ gb374)); have n8_ := Aside0.mk ((by rw [hg]; exact (qK (by repeat (first | (with_reducible first | exact HB.out | apply qF | apply qB | apply qE | refine qD ?_ GE365.out) | exact HB.out))) : w.heap.size ≤ gb374)); have n9_ := Aside0.mk ((by rw [hg]; exact Nat.ne_of_lt (zF (g := gb365) (o := .cells #[.slice Ao8 t355.length co8, .slice Ao10 t358.length co10, .int .i64 t361, .int .i64 t362] 26 (0, 0)) (bw_ BK365.out)) : gb365 ≠ gb374)); have n10_ := Aside0.mk ((by rw [hg]; exact Nat.ne_of_gt (zF (g := gb365) (o := .cells #[.slice Ao8 t355.length co8, .slice Ao10 t358.length co10, .int .i64 t361, .int .i64 t362] 26 (0, 0)) (bw_ BK365.out)) : gb374 ≠ gb365)); clear HO357; clear HO360; clear HO368; clear HO371; clear BK365; clear HB; have HO357 := n0_; have HO360 := n1_; have HO368 := n2_; have HO371 := n3_; have BK365 := n4_; have HB := n5_; have BK374 := n6_; have GW374 := n7_; have GE374 := n8_; have NB365_374 := n9_; have NB374_365 := n10_; clear n0_ n1_ n2_ n3_ n4_ n5_ n6_ n7_ n8_ n9_ n10_; clear hb hbox hg; obtain ⟨Ao13, co13, eo13⟩ := Kd.zE HO368.out; subst eo13; have hnb14 := NB374_365.out; have hnc14 := NB365_374.out; have hcz15_0 : w12.cell? ⟨gb374, 0, none⟩ = some (.slice none 0 0) := (qA BK374.out 0).trans rfl; have hcz15_1 : w12.cell? ⟨gb374, 1, none⟩ = some (.slice none 0 0) := (qA BK374.out 1).trans rfl; have hcz15_2 : w12.cell? ⟨gb374, 2, none⟩ = some (.int .i64 0) := (qA BK374.out 2).trans rfl; have hcz15_3 : w12.cell? ⟨gb374, 3, none⟩ = some (.int .i64 0) := (qA BK374.out 3).trans rfl; have hfz15_0 := qC BK374.out 0; have hfz15_1 := qC BK374.out 1; have hfz15_2 := qC BK374.out 2; have hfz15_3 := qC BK374.out 3; obtain ⟨Ao16, co16, eo16⟩ := Kd.zE HO371.out; subst eo16))
    (try simp only [Act.put, List.setIfInBounds_toArray, List.set_cons_zero, List.set_cons_succ])
    go_cut [49] (fun v49 wc => ∃ (kq : Nat) (x49_4 : Bool), v49 = .bool x49_4 ∧ Aside0 (laws_FnDiskLeft.j0 kq t363 t364 x49_4 t355 t358 t361 t362 t366 t369 t372 t373 = some true) ∧ Aside0 (kq ≤ k) ∧ Aside0 (Kd.Q Kd.string 9 wc w.heap.size (fun k_ => some k_ ≠ ((.slice Ao13 t366.length co13) : Value).ownBlock) (.slice Ao8 t355.length co8) t355) ∧ Aside0 (Kd.R k70 70 wc w.heap.size (fun k_ => some k_ ≠ ((.slice Ao16 t369.length co16) : Value).ownBlock) (.slice Ao10 t358.length co10) t358) ∧ Aside0 (Kd.Q Kd.string 9 wc w.heap.size (fun k_ => some k_ ≠ ((.slice Ao8 t355.length co8) : Value).ownBlock) (.slice Ao13 t366.length co13) t366) ∧ Aside0 (Kd.R k70 70 wc w.heap.size (fun k_ => some k_ ≠ ((.slice Ao10 t358.length co10) : Value).ownBlock) (.slice Ao16 t369.length co16) t369) ∧ Aside0 (wc.heap[gb365]? = some (.cells #[(.slice Ao8 t355.length co8), (.slice Ao10 t358.length co10), .int .i64 t361, .int .i64 t362] 26 (0, 0))) ∧ Aside0 (wc.heap[gb374]? = some (.cells #[(.slice Ao13 t366.length co13), (.slice Ao16 t369.length co16), .int .i64 t372, .int .i64 t373] 26 (0, 0))) ∧ Aside0 (Below w.heap.size w wc))
    case first =>
      have H := HC5.out
      clear HC5
      replace H := Option.bind_eq_some_iff.mp H
      obtain ⟨⟨t375, t378, t381, t382⟩, A170, H⟩ := H
      replace H : ((laws_jtDisk.f k t366 t369 t372 t373 t375 t378 t381 t382).bind fun t383 => (if t383 = true then ((spec_DiskOk.f k t355 t358 t361 t362).bind fun t384 => (if t384 = true then (if t363 < (-1) then (laws_FnDiskLeft.j0 k t363 t364 true t355 t358 t361 t362 t366 t369 t372 t373) else (if t364 < 0 then (laws_FnDiskLeft.j0 k t363 t364 true t355 t358 t361 t362 t366 t369 t372 t373) else (laws_FnDiskLeft.j0 k t363 t364 (decide ((t358.length : Int) > 50)) t355 t358 t361 t362 t366 t369 t372 t373))) else (laws_FnDiskLeft.j0 k t363 t364 true t355 t358 t361 t362 t366 t369 t372 t373))) else (none))) = some true := H
      have A17 := Aside0.mk A170
      clear A170
      replace H := Option.bind_eq_some_iff.mp H
      obtain ⟨t383, A180, H⟩ := H
      replace H : (if t383 = true then ((spec_DiskOk.f k t355 t358 t361 t362).bind fun t384 => (if t384 = true then (if t363 < (-1) then (laws_FnDiskLeft.j0 k t363 t364 true t355 t358 t361 t362 t366 t369 t372 t373) else (if t364 < 0 then (laws_FnDiskLeft.j0 k t363 t364 true t355 t358 t361 t362 t366 t369 t372 t373) else (laws_FnDiskLeft.j0 k t363 t364 (decide ((t358.length : Int) > 50)) t355 t358 t361 t362 t366 t369 t372 t373))) else (laws_FnDiskLeft.j0 k t363 t364 true t355 t358 t361 t362 t366 t369 t372 t373))) else (none)) = some true := H
      have A18 := Aside0.mk A180
      clear A180
      by_cases c19 : t383 = true
      · subst c19
        have H1 : ((spec_DiskOk.f k t355 t358 t361 t362).bind fun t384 => (if t384 = true then (if t363 < (-1) then (laws_FnDiskLeft.j0 k t363 t364 true t355 t358 t361 t362 t366 t369 t372 t373) else (if t364 < 0 then (laws_FnDiskLeft.j0 k t363 t364 true t355 t358 t361 t362 t366 t369 t372 t373) else (laws_FnDiskLeft.j0 k t363 t364 (decide ((t358.length : Int) > 50)) t355 t358 t361 t362 t366 t369 t372 t373))) else (laws_FnDiskLeft.j0 k t363 t364 true t355 t358 t361 t362 t366 t369 t372 t373))) = some true := by rw [if_pos rfl] at H; exact H
        clear H
        have H := H1
        clear H1
        replace H := Option.bind_eq_some_iff.mp H
        obtain ⟨t384, A200, H⟩ := H
        replace H : (if t384 = true then (if t363 < (-1) then (laws_FnDiskLeft.j0 k t363 t364 true t355 t358 t361 t362 t366 t369 t372 t373) else (if t364 < 0 then (laws_FnDiskLeft.j0 k t363 t364 true t355 t358 t361 t362 t366 t369 t372 t373) else (laws_FnDiskLeft.j0 k t363 t364 (decide ((t358.length : Int) > 50)) t355 t358 t361 t362 t366 t369 t372 t373))) else (laws_FnDiskLeft.j0 k t363 t364 true t355 t358 t361 t362 t366 t369 t372 t373)) = some true := H
        have A20 := Aside0.mk A200
        clear A200
        by_cases c21 : t384 = true
        · subst c21
          have H1 : (if t363 < (-1) then (laws_FnDiskLeft.j0 k t363 t364 true t355 t358 t361 t362 t366 t369 t372 t373) else (if t364 < 0 then (laws_FnDiskLeft.j0 k t363 t364 true t355 t358 t361 t362 t366 t369 t372 t373) else (laws_FnDiskLeft.j0 k t363 t364 (decide ((t358.length : Int) > 50)) t355 t358 t361 t362 t366 t369 t372 t373))) = some true := by rw [if_pos rfl] at H; exact H
          clear H
          have H := H1
          clear H1
          by_cases c22 : t363 < (-1)
          · rw [if_pos c22] at H
            have c22b0 : decide (t363 < (-1)) = true := decide_eq_true c22
            clear c22
            (first | rw [c22b0] | (simp only [i64_w, i32_w]; rw [c22b0]) | skip)
            have H' := Aside0.mk H
            clear H
            try go_wp2
            have n0_ : Aside0 (Kd.Q Kd.string 9 ((((w12.setCell ⟨gb374, 0, none⟩ (.slice Ao13 t366.length co13)).setCell ⟨gb374, 1, none⟩ (.slice Ao16 t369.length co16)).setCell ⟨gb374, 2, none⟩ (.int .i64 t372)).setCell ⟨gb374, 3, none⟩ (.int .i64 t373)) w.heap.size (fun k_ => some k_ ≠ (.slice Ao13 t366.length co13 : Value).ownBlock) (.slice Ao8 t355.length co8) t355) := ⟨by (with_reducible repeat (first | apply Kd.xA | apply Kd.xB | apply Kd.zW)); exact Kd.zX (Kd.Q_far (p := ⟨gb374, 3, none⟩) (Kd.Q_far (p := ⟨gb374, 2, none⟩) (Kd.Q_far (p := ⟨gb374, 1, none⟩) (Kd.Q_far (p := ⟨gb374, 0, none⟩) (Kd.xC HO357.out BK374.out (by decide)) (fun _ hk => hk.2) (.slice Ao13 t366.length co13)) (fun _ hk => hk.2) (.slice Ao16 t369.length co16)) (fun _ hk => hk.2) (.int .i64 t372)) (fun _ hk => hk.2) (.int .i64 t373)) (fun _ hk => hk.1.2)⟩
            have n1_ : Aside0 (Kd.R k70 70 ((((w12.setCell ⟨gb374, 0, none⟩ (.slice Ao13 t366.length co13)).setCell ⟨gb374, 1, none⟩ (.slice Ao16 t369.length co16)).setCell ⟨gb374, 2, none⟩ (.int .i64 t372)).setCell ⟨gb374, 3, none⟩ (.int .i64 t373)) w.heap.size (fun k_ => some k_ ≠ (.slice Ao16 t369.length co16 : Value).ownBlock) (.slice Ao10 t358.length co10) t358) := ⟨by (with_reducible repeat (first | apply Kd.zI | apply Kd.zH | apply Kd.zD)); exact Kd.qS (Kd.R_far (p := ⟨gb374, 3, none⟩) (Kd.R_far (p := ⟨gb374, 2, none⟩) (Kd.R_far (p := ⟨gb374, 1, none⟩) (Kd.R_far (p := ⟨gb374, 0, none⟩) (Kd.qW HO360.out BK374.out (by decide)) (fun _ hk => hk.2) (.slice Ao13 t366.length co13)) (fun _ hk => hk.2) (.slice Ao16 t369.length co16)) (fun _ hk => hk.2) (.int .i64 t372)) (fun _ hk => hk.2) (.int .i64 t373)) (fun _ hk => hk.1.2)⟩
            have n2_ : Aside0 (Kd.R Kd.string 9 ((((w12.setCell ⟨gb374, 0, none⟩ (.slice Ao13 t366.length co13)).setCell ⟨gb374, 1, none⟩ (.slice Ao16 t369.length co16)).setCell ⟨gb374, 2, none⟩ (.int .i64 t372)).setCell ⟨gb374, 3, none⟩ (.int .i64 t373)) w.heap.size (fun k_ => some k_ ≠ (.slice Ao8 t355.length co8 : Value).ownBlock) (.slice Ao13 t366.length co13) t366) := ⟨by (with_reducible repeat (first | apply Kd.zI | apply Kd.zH | apply Kd.zD)); exact Kd.qS (Kd.R_far (p := ⟨gb374, 3, none⟩) (Kd.R_far (p := ⟨gb374, 2, none⟩) (Kd.R_far (p := ⟨gb374, 1, none⟩) (Kd.R_far (p := ⟨gb374, 0, none⟩) (Kd.qW HO368.out BK374.out (by decide)) (fun _ hk => hk.2) (.slice Ao13 t366.length co13)) (fun _ hk => hk.2) (.slice Ao16 t369.length co16)) (fun _ hk => hk.2) (.int .i64 t372)) (fun _ hk => hk.2) (.int .i64 t373)) (fun _ hk => hk.1.2)⟩
            have n3_ : Aside0 (Kd.R k70 70 ((((w12.setCell ⟨gb374, 0, none⟩ (.slice Ao13 t366.length co13)).setCell ⟨gb374, 1, none⟩ (.slice Ao16 t369.length co16)).setCell ⟨gb374, 2, none⟩ (.int .i64 t372)).setCell ⟨gb374, 3, none⟩ (.int .i64 t373)) w.heap.size (fun k_ => some k_ ≠ (.slice Ao10 t358.length co10 : Value).ownBlock) (.slice Ao16 t369.length co16) t369) := ⟨by (with_reducible repeat (first | apply Kd.zI | apply Kd.zH | apply Kd.zD)); exact Kd.qS (Kd.R_far (p := ⟨gb374, 3, none⟩) (Kd.R_far (p := ⟨gb374, 2, none⟩) (Kd.R_far (p := ⟨gb374, 1, none⟩) (Kd.R_far (p := ⟨gb374, 0, none⟩) (Kd.qW HO371.out BK374.out (by decide)) (fun _ hk => hk.2) (.slice Ao13 t366.length co13)) (fun _ hk => hk.2) (.slice Ao16 t369.length co16)) (fun _ hk => hk.2) (.int .i64 t372)) (fun _ hk => hk.2) (.int .i64 t373)) (fun _ hk => hk.1.2)⟩
            have n4_ : Aside0 (((((w12.setCell ⟨gb374, 0, none⟩ (.slice Ao13 t366.length co13)).setCell ⟨gb374, 1, none⟩ (.slice Ao16 t369.length co16)).setCell ⟨gb374, 2, none⟩ (.int .i64 t372)).setCell ⟨gb374, 3, none⟩ (.int .i64 t373)).heap[gb365]? = some (.cells #[.slice Ao8 t355.length co8, .slice Ao10 t358.length co10, .int .i64 t361, .int .i64 t362] 26 (0, 0))) := ⟨by (with_reducible repeat (first | refine qH ?_ _ | refine qI ?_ | refine qG ?_ _)); refine qR ?_ NB365_374.out _; (with_reducible repeat (first | refine qH ?_ _ | refine qI ?_ | refine qG ?_ _)); refine qR ?_ NB365_374.out _; (with_reducible repeat (first | refine qH ?_ _ | refine qI ?_ | refine qG ?_ _)); refine qR ?_ NB365_374.out _; (with_reducible repeat (first | refine qH ?_ _ | refine qI ?_ | refine qG ?_ _)); refine qR ?_ NB365_374.out _; (with_reducible repeat (first | refine qH ?_ _ | refine qI ?_ | refine qG ?_ _)); exact BK365.out⟩
            have n5_ : Aside0 (((((w12.setCell ⟨gb374, 0, none⟩ (.slice Ao13 t366.length co13)).setCell ⟨gb374, 1, none⟩ (.slice Ao16 t369.length co16)).setCell ⟨gb374, 2, none⟩ (.int .i64 t372)).setCell ⟨gb374, 3, none⟩ (.int .i64 t373)).heap[gb374]? = some (.cells #[.slice Ao13 t366.length co13, .slice Ao16 t369.length co16, .int .i64 t372, .int .i64 t373] 26 (0, 0))) := ⟨by (with_reducible repeat (first | refine qH ?_ _ | refine qI ?_ | refine qG ?_ _)); refine qO (cs := #[.slice Ao13 t366.length co13, .slice Ao16 t369.length co16, .int .i64 t372, .int .i64 0]) ?_ 3 _ rfl; (with_reducible repeat (first | refine qH ?_ _ | refine qI ?_ | refine qG ?_ _)); refine qO (cs := #[.slice Ao13 t366.length co13, .slice Ao16 t369.length co16, .int .i64 0, .int .i64 0]) ?_ 2 _ rfl; (with_reducible repeat (first | refine qH ?_ _ | refine qI ?_ | refine qG ?_ _)); refine qO (cs := #[.slice Ao13 t366.length co13, .slice none 0 0, .int .i64 0, .int .i64 0]) ?_ 1 _ rfl; (with_reducible repeat (first | refine qH ?_ _ | refine qI ?_ | refine qG ?_ _)); refine qO (cs := #[.slice none 0 0, .slice none 0 0, .int .i64 0, .int .i64 0]) ?_ 0 _ rfl; (with_reducible repeat (first | refine qH ?_ _ | refine qI ?_ | refine qG ?_ _)); exact BK374.out⟩
            have n6_ : Aside0 (Below w.heap.size w ((((w12.setCell ⟨gb374, 0, none⟩ (.slice Ao13 t366.length co13)).setCell ⟨gb374, 1, none⟩ (.slice Ao16 t369.length co16)).setCell ⟨gb374, 2, none⟩ (.int .i64 t372)).setCell ⟨gb374, 3, none⟩ (.int .i64 t373))) := ⟨by repeat (first | (with_reducible first | exact HB.out | apply qF | apply qB | apply qE | refine qD ?_ GE365.out | refine qD ?_ GE374.out) | exact HB.out)⟩
            (try clear HO357)
            (try clear HO360)
            (try clear HO368)
            (try clear HO371)
            (try clear BK365)
            (try clear BK374)
            (try clear HB)
            generalize ((((w12.setCell ⟨gb374, 0, none⟩ (.slice Ao13 t366.length co13)).setCell ⟨gb374, 1, none⟩ (.slice Ao16 t369.length co16)).setCell ⟨gb374, 2, none⟩ (.int .i64 t372)).setCell ⟨gb374, 3, none⟩ (.int .i64 t373)) = w23 at n0_ n1_ n2_ n3_ n4_ n5_ n6_ ⊢
            have HO357 := n0_
            have HO360 := n1_
            have HO368 := n2_
            have HO371 := n3_
            have BK365 := n4_
            have BK374 := n5_
            have HB := n6_
            clear n0_ n1_ n2_ n3_ n4_ n5_ n6_
            have n0_ := Aside0.mk (Kd.zW HO357.out)
            have n1_ := Aside0.mk (Kd.zD HO360.out)
            have n2_ := Aside0.mk (Kd.zD HO368.out)
            have n3_ := Aside0.mk (Kd.zD HO371.out)
            have n4_ := Aside0.mk (qI BK365.out)
            have n5_ := Aside0.mk (qI BK374.out)
            have n6_ := Aside0.mk (qE HB.out)
            clear HO357
            clear HO360
            clear HO368
            clear HO371
            clear BK365
            clear BK374
            clear HB
            have HO357 := n0_
            have HO360 := n1_
            have HO368 := n2_
            have HO371 := n3_
            have BK365 := n4_
            have BK374 := n5_
            have HB := n6_
            clear n0_ n1_ n2_ n3_ n4_ n5_ n6_
            refine start_ (n := 26) (S := fun w' => w'.cell? ⟨gb374, 0, none⟩ = some (.slice Ao13 t366.length co13) ∧ w'.cell? ⟨gb374, 1, none⟩ = some (.slice Ao16 t369.length co16) ∧ w'.cell? ⟨gb374, 2, none⟩ = some (.int .i64 t372) ∧ w'.cell? ⟨gb374, 3, none⟩ = some (.int .i64 t373) ∧ w'.cell? ⟨gb365, 0, none⟩ = some (.slice Ao8 t355.length co8) ∧ w'.cell? ⟨gb365, 1, none⟩ = some (.slice Ao10 t358.length co10) ∧ w'.cell? ⟨gb365, 2, none⟩ = some (.int .i64 t361) ∧ w'.cell? ⟨gb365, 3, none⟩ = some (.int .i64 t362)) (ds := []) #[false, false, false, false, false, false, false, false, false, false, false, false, false, false, false, false, false, false, false, false, false, false, false, false, false, false] (by kernel_rfl) rfl rfl ⟨(qA BK374.out 0).trans rfl, (qA BK374.out 1).trans rfl, (qA BK374.out 2).trans rfl, (qA BK374.out 3).trans rfl, (qA BK365.out 0).trans rfl, (qA BK365.out 1).trans rfl, (qA BK365.out 2).trans rfl, (qA BK365.out 3).trans rfl⟩ (fun hHeld => ?_); refine xH laws_FnDiskLeft.tab5 laws_FnDiskLeft.bits5 (fun HT_ HW_ => ?_)
            generalize w23.drew = w24 at HO357 HO360 HO368 HO371 BK365 BK374 HB hHeld ⊢
            refine pure_ (i := 2) (N := some 26) (v := ?_) (a' := ?_) #[false, false, true, false, false, false, false, false, false, false, false, false, false, false, false, false, false, false, false, false, false, false, false, false, false, false] rfl rfl (zB HT_.out (by kernel_rfl)) (fun _ _ _ h => h) (Or.inl ⟨by rfl, ?_⟩) ?_ ?_
            rotate_left
            · intro w'
              go_simp
              with_reducible rfl
            rotate_left
            · simp only [Act.put, List.setIfInBounds_toArray, List.set_cons_zero, List.set_cons_succ, i64_w, i32_w]
              rfl
            refine pure_ (i := 3) (N := some 27) (v := ?_) (a' := ?_) #[false, false, true, true, false, false, false, false, false, false, false, false, false, false, false, false, false, false, false, false, false, false, false, false, false, false] rfl rfl (zB HT_.out (by kernel_rfl)) (fun _ _ _ h => h) (Or.inl ⟨by rfl, ?_⟩) ?_ ?_
            rotate_left
            · intro w'
              go_simp
              with_reducible rfl
            rotate_left
            · simp only [Act.put, List.setIfInBounds_toArray, List.set_cons_zero, List.set_cons_succ, i64_w, i32_w]
              rfl
            refine take_ (i := 0) (N := some 24) (v := ?_) (a' := ?_) #[true, false, true, true, false, false, false, false, false, false, false, false, false, false, false, false, false, false, false, false, false, false, false, false, false, false] rfl rfl (zQ HT_.out HW_.out (by kernel_rfl)) (fun _ _ _ h => h) (Or.inl ⟨by rfl, ?_⟩) hHeld ?_ ?_
            rotate_left
            · rintro w' ⟨s0, s1, s2, s3, s4, s5, s6, s7⟩
              go_simp
              with_reducible rfl
            rotate_left
            · simp only [Act.put, List.setIfInBounds_toArray, List.set_cons_zero, List.set_cons_succ, i64_w, i32_w]
              rfl
            refine take_ (i := 1) (N := some 25) (v := ?_) (a' := ?_) #[true, true, true, true, false, false, false, false, false, false, false, false, false, false, false, false, false, false, false, false, false, false, false, false, false, false] rfl rfl (zQ HT_.out HW_.out (by kernel_rfl)) (fun _ _ _ h => h) (Or.inl ⟨by rfl, ?_⟩) hHeld ?_ ?_
            rotate_left
            · rintro w' ⟨s0, s1, s2, s3, s4, s5, s6, s7⟩
              go_simp
              with_reducible rfl
            rotate_left
            · simp only [Act.put, List.setIfInBounds_toArray, List.set_cons_zero, List.set_cons_succ, i64_w, i32_w]
              rfl
            refine one_ (i := 4) (N := some 28) #[true, true, true, true, true, false, false, false, false, false, false, false, false, false, false, false, false, false, false, false, false, false, false, false, false, false] rfl rfl (zT HT_.out (by kernel_rfl)) (by decide) (fun K hK => ?_)
            refine goes_ Try.func14 (by kernel_rfl) rfl #[.agg #[.slice Ao8 t355.length co8, .slice Ao10 t358.length co10, .int .i64 t361, .int .i64 t362], .int .i64 t363, .int .i64 t364] (by rfl) rfl rfl (by (try simp only [List.map_toArray, List.map_cons, List.map_nil]); first | done | rfl | (simp only [List.length_drop, List.length_take]; rfl)) ?_
            with_reducible refine (spec_DiskSet.calls k _ _ t355 _ _ t358 t361 t362 t363 t364 t375 t378 t381 t382 _ ?side1 ?side2 ?side3 ?side4 A17.out).mono ?_
            (case side1 => repeat (first | exact (Kd.zN HO357.out).2.2 | (with_reducible refine Kd.qX ?_ _) | (with_reducible refine Kd.qY ?_ _) | (with_reducible refine Kd.zC ?_)))
            (case side2 => exact (Kd.zN HO357.out).2.1)
            (case side3 => repeat (first | exact (Kd.qT HO360.out).2.2 | (with_reducible refine Kd.qX ?_ _) | (with_reducible refine Kd.qY ?_ _) | (with_reducible refine Kd.zC ?_)))
            (case side4 => exact (Kd.qT HO360.out).2.1)
            rintro e w25 ⟨v376, v379, rfl, ho0, ho1, hb⟩
            refine ⟨_, rfl, ?_⟩
            have n0_ := Aside0.mk (Kd.xD (qw_ HO357.out) (Kd.zP ho0) hb)
            have n1_ := Aside0.mk (Kd.zO (rw_ HO360.out) (Kd.zP ho1) hb)
            have n2_ := Aside0.mk (Kd.zO (rw_ HO368.out) (Kd.zP ho0) hb)
            have n3_ := Aside0.mk (Kd.zO (rw_ HO371.out) (Kd.zP ho1) hb)
            have n4_ := Aside0.mk (Kd.zJ (Kd.zR (Kd.zR ho0 (Kd.Q_lt (qw_ HO357.out))) (Kd.R_lt (rw_ HO368.out))) (qK (by repeat (first | (with_reducible first | exact HB.out | apply qF | apply qB | apply qE | refine qD ?_ GE365.out | refine qD ?_ GE374.out) | exact HB.out))))
            have n5_ := Aside0.mk (Kd.zJ (Kd.zR (Kd.zR ho1 (Kd.R_lt (rw_ HO360.out))) (Kd.R_lt (rw_ HO371.out))) (qK (by repeat (first | (with_reducible first | exact HB.out | apply qF | apply qB | apply qE | refine qD ?_ GE365.out | refine qD ?_ GE374.out) | exact HB.out))))
            have n6_ := Aside0.mk (qJ (g := gb365) (o := .cells #[.slice Ao8 t355.length co8, .slice Ao10 t358.length co10, .int .i64 t361, .int .i64 t362] 26 (0, 0)) (bw_ BK365.out) hb)
            have n7_ := Aside0.mk (qJ (g := gb374) (o := .cells #[.slice Ao13 t366.length co13, .slice Ao16 t369.length co16, .int .i64 t372, .int .i64 t373] 26 (0, 0)) (bw_ BK374.out) hb)
            have n8_ := Aside0.mk (qL (by repeat (first | (with_reducible first | exact HB.out | apply qF | apply qB | apply qE | refine qD ?_ GE365.out | refine qD ?_ GE374.out) | exact HB.out)) hb)
            clear HO357
            clear HO360
            clear HO368
            clear HO371
            clear BK365
            clear BK374
            clear HB
            have HO357 := n0_
            have HO360 := n1_
            have HO368 := n2_
            have HO371 := n3_
            have HO377 := n4_
            have HO380 := n5_
            have BK365 := n6_
            have BK374 := n7_
            have HB := n8_
            clear n0_ n1_ n2_ n3_ n4_ n5_ n6_ n7_ n8_
            (try clear hb)
            (try clear hb2)
            (try clear hk)
            (try clear hi)
            (try clear ho0)
            (try clear ho1)
            obtain ⟨Ao26, co26, eo26⟩ := Kd.zE HO377.out
            (first | subst eo26 | (injection eo26 with f1_ f2_ f3_; have f4_ := f1_.symm; have f5_ := f3_.symm; clear f1_ f2_ f3_; subst f4_; subst f5_))
            obtain ⟨Ao27, co27, eo27⟩ := Kd.zE HO380.out
            (first | subst eo27 | (injection eo27 with f1_ f2_ f3_; have f4_ := f1_.symm; have f5_ := f3_.symm; clear f1_ f2_ f3_; subst f4_; subst f5_))
            refine hK.out _ _ ⟨(qA BK374.out 0).trans rfl, (qA BK374.out 1).trans rfl, (qA BK374.out 2).trans rfl, (qA BK374.out 3).trans rfl, (qA BK365.out 0).trans rfl, (qA BK365.out 1).trans rfl, (qA BK365.out 2).trans rfl, (qA BK365.out 3).trans rfl⟩ (fun hHeld => ?_)
            clear hK K
            refine norm_ (a' := ?_) ?_ ?_
            rotate_left
            · show Act.put _ (some 28) _ = _
              simp only [Act.put, List.setIfInBounds_toArray, List.set_cons_zero, List.set_cons_succ, i64_w, i32_w]
              rfl
            refine one_ (i := 5) (N := some 29) #[true, true, true, true, true, true, false, false, false, false, false, false, false, false, false, false, false, false, false, false, false, false, false, false, false, false] rfl rfl (zT HT_.out (by kernel_rfl)) (by decide) (fun K hK => ?_)
            refine goes_ Try.func13 (by kernel_rfl) rfl #[.agg #[.slice Ao13 t366.length co13, .slice Ao16 t369.length co16, .int .i64 t372, .int .i64 t373], .agg #[.slice Ao26 t375.length co26, .slice Ao27 t378.length co27, .int .i64 t381, .int .i64 t382]] (by rfl) rfl rfl (by (try simp only [List.map_toArray, List.map_cons, List.map_nil]); first | done | rfl | (simp only [List.length_drop, List.length_take]; rfl)) ?_
            with_reducible refine (laws_jtDisk.calls k _ _ t366 _ _ t369 t372 t373 _ _ t375 _ _ t378 t381 t382 true _ ?side1 ?side2 ?side3 ?side4 ?side5 ?side6 ?side7 ?side8 A18.out).mono ?_
            (case side1 => repeat (first | exact (Kd.qT HO368.out).2.2 | (with_reducible refine Kd.qX ?_ _) | (with_reducible refine Kd.qY ?_ _) | (with_reducible refine Kd.zC ?_)))
            (case side2 => exact (Kd.qT HO368.out).2.1)
            (case side3 => repeat (first | exact (Kd.qT HO371.out).2.2 | (with_reducible refine Kd.qX ?_ _) | (with_reducible refine Kd.qY ?_ _) | (with_reducible refine Kd.zC ?_)))
            (case side4 => exact (Kd.qT HO371.out).2.1)
            (case side5 => repeat (first | exact (Kd.qT HO377.out).2.2 | (with_reducible refine Kd.qX ?_ _) | (with_reducible refine Kd.qY ?_ _) | (with_reducible refine Kd.zC ?_)))
            (case side6 => exact (Kd.qT HO377.out).2.1)
            (case side7 => repeat (first | exact (Kd.qT HO380.out).2.2 | (with_reducible refine Kd.qX ?_ _) | (with_reducible refine Kd.qY ?_ _) | (with_reducible refine Kd.zC ?_)))
            (case side8 => exact (Kd.qT HO380.out).2.1)
            rintro e w28 ⟨rfl, hb⟩
            refine ⟨_, rfl, ?_⟩
            have n0_ := Aside0.mk (Kd.zU (qw_ HO357.out) hb)
            have n1_ := Aside0.mk (Kd.qZ (rw_ HO360.out) hb)
            have n2_ := Aside0.mk (Kd.qZ (rw_ HO368.out) hb)
            have n3_ := Aside0.mk (Kd.qZ (rw_ HO371.out) hb)
            have n4_ := Aside0.mk (Kd.qZ (rw_ HO377.out) hb)
            have n5_ := Aside0.mk (Kd.qZ (rw_ HO380.out) hb)
            have n6_ := Aside0.mk (qJ (g := gb365) (o := .cells #[.slice Ao8 t355.length co8, .slice Ao10 t358.length co10, .int .i64 t361, .int .i64 t362] 26 (0, 0)) (bw_ BK365.out) hb)
            have n7_ := Aside0.mk (qJ (g := gb374) (o := .cells #[.slice Ao13 t366.length co13, .slice Ao16 t369.length co16, .int .i64 t372, .int .i64 t373] 26 (0, 0)) (bw_ BK374.out) hb)
            have n8_ := Aside0.mk (qL (by repeat (first | (with_reducible first | exact HB.out | apply qF | apply qB | apply qE | refine qD ?_ GE365.out | refine qD ?_ GE374.out) | exact HB.out)) hb)
            clear HO357
            clear HO360
            clear HO368
            clear HO371
            clear HO377
            clear HO380
            clear BK365
            clear BK374
            clear HB
            have HO357 := n0_
            have HO360 := n1_
            have HO368 := n2_
            have HO371 := n3_
            have HO377 := n4_
            have HO380 := n5_
            have BK365 := n6_
            have BK374 := n7_
            have HB := n8_
            clear n0_ n1_ n2_ n3_ n4_ n5_ n6_ n7_ n8_
            (try clear hb)
            (try clear hb2)
            (try clear hk)
            (try clear hi)
            refine hK.out _ _ ⟨(qA BK374.out 0).trans rfl, (qA BK374.out 1).trans rfl, (qA BK374.out 2).trans rfl, (qA BK374.out 3).trans rfl, (qA BK365.out 0).trans rfl, (qA BK365.out 1).trans rfl, (qA BK365.out 2).trans rfl, (qA BK365.out 3).trans rfl⟩ (fun hHeld => ?_)
            clear hK K
            refine norm_ (a' := ?_) ?_ ?_
            rotate_left
            · show Act.put _ (some 29) _ = _
              simp only [Act.put, List.setIfInBounds_toArray, List.set_cons_zero, List.set_cons_succ, i64_w, i32_w]
              rfl
            refine pure_ (i := 6) (N := some 30) (v := ?_) (a' := ?_) #[true, true, true, true, true, true, true, false, false, false, false, false, false, false, false, false, false, false, false, false, false, false, false, false, false, false] rfl rfl (zB HT_.out (by kernel_rfl)) (fun _ _ _ h => h) (Or.inl ⟨by rfl, ?_⟩) ?_ ?_
            rotate_left
            · intro w'
              go_simp
              with_reducible rfl
            rotate_left
            · simp only [Act.put, List.setIfInBounds_toArray, List.set_cons_zero, List.set_cons_succ, i64_w, i32_w]
              rfl
            refine pure_ (i := 7) (N := some 31) (v := ?_) (a' := ?_) #[true, true, true, true, true, true, true, true, false, false, false, false, false, false, false, false, false, false, false, false, false, false, false, false, false, false] rfl rfl (zB HT_.out (by kernel_rfl)) (fun _ _ _ h => h) (Or.inl ⟨by rfl, ?_⟩) ?_ ?_
            rotate_left
            · intro w'
              go_simp
              with_reducible rfl
            rotate_left
            · simp only [Act.put, List.setIfInBounds_toArray, List.set_cons_zero, List.set_cons_succ, i64_w, i32_w]
              rfl
            refine take_ (i := 8) (N := some 32) (v := ?_) (a' := ?_) #[true, true, true, true, true, true, true, true, true, false, false, false, false, false, false, false, false, false, false, false, false, false, false, false, false, false] rfl rfl (zQ HT_.out HW_.out (by kernel_rfl)) (fun _ _ _ h => h) (Or.inl ⟨by rfl, ?_⟩) hHeld ?_ ?_
            rotate_left
            · rintro w' ⟨s0, s1, s2, s3, s4, s5, s6, s7⟩
              go_simp
              with_reducible rfl
            rotate_left
            · simp only [Act.put, List.setIfInBounds_toArray, List.set_cons_zero, List.set_cons_succ, i64_w, i32_w]
              rfl
            refine one_ (i := 9) (N := some 33) #[true, true, true, true, true, true, true, true, true, true, false, false, false, false, false, false, false, false, false, false, false, false, false, false, false, false] rfl rfl (zT HT_.out (by kernel_rfl)) (by decide) (fun K hK => ?_)
            refine goes_ Try.func15 (by kernel_rfl) rfl #[.agg #[.slice Ao8 t355.length co8, .slice Ao10 t358.length co10, .int .i64 t361, .int .i64 t362]] (by rfl) rfl rfl (by (try simp only [List.map_toArray, List.map_cons, List.map_nil]); first | done | rfl | (simp only [List.length_drop, List.length_take]; rfl)) ?_
            with_reducible refine (spec_DiskOk.calls k _ _ t355 _ _ t358 t361 t362 true _ ?side1 ?side2 ?side3 ?side4 A20.out).mono ?_
            (case side1 => repeat (first | exact (Kd.zN HO357.out).2.2 | (with_reducible refine Kd.qX ?_ _) | (with_reducible refine Kd.qY ?_ _) | (with_reducible refine Kd.zC ?_)))
            (case side2 => exact (Kd.zN HO357.out).2.1)
            (case side3 => repeat (first | exact (Kd.qT HO360.out).2.2 | (with_reducible refine Kd.qX ?_ _) | (with_reducible refine Kd.qY ?_ _) | (with_reducible refine Kd.zC ?_)))
            (case side4 => exact (Kd.qT HO360.out).2.1)
            rintro e w29 ⟨rfl, hb⟩
            refine ⟨_, rfl, ?_⟩
            have n0_ := Aside0.mk (Kd.zU (qw_ HO357.out) hb)
            have n1_ := Aside0.mk (Kd.qZ (rw_ HO360.out) hb)
            have n2_ := Aside0.mk (Kd.qZ (rw_ HO368.out) hb)
            have n3_ := Aside0.mk (Kd.qZ (rw_ HO371.out) hb)
            have n4_ := Aside0.mk (Kd.qZ (rw_ HO377.out) hb)
            have n5_ := Aside0.mk (Kd.qZ (rw_ HO380.out) hb)
            have n6_ := Aside0.mk (qJ (g := gb365) (o := .cells #[.slice Ao8 t355.length co8, .slice Ao10 t358.length co10, .int .i64 t361, .int .i64 t362] 26 (0, 0)) (bw_ BK365.out) hb)
            have n7_ := Aside0.mk (qJ (g := gb374) (o := .cells #[.slice Ao13 t366.length co13, .slice Ao16 t369.length co16, .int .i64 t372, .int .i64 t373] 26 (0, 0)) (bw_ BK374.out) hb)
            have n8_ := Aside0.mk (qL (by repeat (first | (with_reducible first | exact HB.out | apply qF | apply qB | apply qE | refine qD ?_ GE365.out | refine qD ?_ GE374.out) | exact HB.out)) hb)
            clear HO357
            clear HO360
            clear HO368
            clear HO371
            clear HO377
            clear HO380
            clear BK365
            clear BK374
            clear HB
            have HO357 := n0_
            have HO360 := n1_
            have HO368 := n2_
            have HO371 := n3_
            have HO377 := n4_
            have HO380 := n5_
            have BK365 := n6_
            have BK374 := n7_
            have HB := n8_
            clear n0_ n1_ n2_ n3_ n4_ n5_ n6_ n7_ n8_
            (try clear hb)
            (try clear hb2)
            (try clear hk)
            (try clear hi)
            refine hK.out _ _ ⟨(qA BK374.out 0).trans rfl, (qA BK374.out 1).trans rfl, (qA BK374.out 2).trans rfl, (qA BK374.out 3).trans rfl, (qA BK365.out 0).trans rfl, (qA BK365.out 1).trans rfl, (qA BK365.out 2).trans rfl, (qA BK365.out 3).trans rfl⟩ (fun hHeld => ?_)
            clear hK K
            refine norm_ (a' := ?_) ?_ ?_
            rotate_left
            · show Act.put _ (some 33) _ = _
              simp only [Act.put, List.setIfInBounds_toArray, List.set_cons_zero, List.set_cons_succ, i64_w, i32_w]
              rfl
            refine pure_ (i := 10) (N := some 34) (v := ?_) (a' := ?_) #[true, true, true, true, true, true, true, true, true, true, true, false, false, false, false, false, false, false, false, false, false, false, false, false, false, false] rfl rfl (zB HT_.out (by kernel_rfl)) (fun _ _ _ h => h) (Or.inl ⟨by rfl, ?_⟩) ?_ ?_
            rotate_left
            · intro w'
              go_simp
              with_reducible rfl
            rotate_left
            · simp only [Act.put, List.setIfInBounds_toArray, List.set_cons_zero, List.set_cons_succ, i64_w, i32_w]
              rfl
            refine pure_ (i := 11) (N := some 35) (v := ?_) (a' := ?_) #[true, true, true, true, true, true, true, true, true, true, true, true, false, false, false, false, false, false, false, false, false, false, false, false, false, false] rfl rfl (zB HT_.out (by kernel_rfl)) (fun _ _ _ h => h) (Or.inl ⟨by rfl, ?_⟩) ?_ ?_
            rotate_left
            · intro w'
              go_simp
              with_reducible rfl
            rotate_left
            · simp only [Act.put, List.setIfInBounds_toArray, List.set_cons_zero, List.set_cons_succ, i64_w, i32_w]
              rfl
            refine pure_ (i := 12) (N := some 36) (v := ?_) (a' := ?_) #[true, true, true, true, true, true, true, true, true, true, true, true, true, false, false, false, false, false, false, false, false, false, false, false, false, false] rfl rfl (zB HT_.out (by kernel_rfl)) (fun _ _ _ h => h) (Or.inl ⟨by rfl, ?_⟩) ?_ ?_
            rotate_left
            · intro w'
              go_simp
              with_reducible rfl
            rotate_left
            · simp only [Act.put, List.setIfInBounds_toArray, List.set_cons_zero, List.set_cons_succ, i64_w, i32_w]
              rfl
            refine pure_ (i := 13) (N := some 37) (v := ?_) (a' := ?_) #[true, true, true, true, true, true, true, true, true, true, true, true, true, true, false, false, false, false, false, false, false, false, false, false, false, false] rfl rfl (zB HT_.out (by kernel_rfl)) (fun _ _ _ h => h) (Or.inl ⟨by rfl, ?_⟩) ?_ ?_
            rotate_left
            · intro w'
              go_simp
              with_reducible rfl
            rotate_left
            · simp only [Act.put, List.setIfInBounds_toArray, List.set_cons_zero, List.set_cons_succ, i64_w, i32_w]
              rfl
            refine pure_ (i := 14) (N := some 38) (v := ?_) (a' := ?_) #[true, true, true, true, true, true, true, true, true, true, true, true, true, true, true, false, false, false, false, false, false, false, false, false, false, false] rfl rfl (zB HT_.out (by kernel_rfl)) (fun _ _ _ h => h) (Or.inl ⟨by rfl, ?_⟩) ?_ ?_
            rotate_left
            · intro w'
              go_simp
              with_reducible rfl
            rotate_left
            · simp only [Act.put, List.setIfInBounds_toArray, List.set_cons_zero, List.set_cons_succ, i64_w, i32_w]
              rfl
            refine pure_ (i := 15) (N := some 39) (v := ?_) (a' := ?_) #[true, true, true, true, true, true, true, true, true, true, true, true, true, true, true, true, false, false, false, false, false, false, false, false, false, false] rfl rfl (zB HT_.out (by kernel_rfl)) (fun _ _ _ h => h) (Or.inl ⟨by rfl, ?_⟩) ?_ ?_
            rotate_left
            · intro w'
              go_simp
              with_reducible rfl
            rotate_left
            · simp only [Act.put, List.setIfInBounds_toArray, List.set_cons_zero, List.set_cons_succ, i64_w, i32_w]
              rfl
            refine pure_ (i := 16) (N := some 40) (v := ?_) (a' := ?_) #[true, true, true, true, true, true, true, true, true, true, true, true, true, true, true, true, true, false, false, false, false, false, false, false, false, false] rfl rfl (zB HT_.out (by kernel_rfl)) (fun _ _ _ h => h) (Or.inl ⟨by rfl, ?_⟩) ?_ ?_
            rotate_left
            · intro w'
              go_simp
              with_reducible rfl
            rotate_left
            · simp only [Act.put, List.setIfInBounds_toArray, List.set_cons_zero, List.set_cons_succ, i64_w, i32_w]
              rfl
            refine pure_ (i := 17) (N := some 41) (v := undef) (a' := ?_) #[true, true, true, true, true, true, true, true, true, true, true, true, true, true, true, true, true, true, false, false, false, false, false, false, false, false] rfl rfl (zB HT_.out (by kernel_rfl)) (fun _ _ _ h => h) (Or.inr ⟨by rfl, rfl⟩) ?_ ?_
            rotate_left
            · simp only [Act.put, List.setIfInBounds_toArray, List.set_cons_zero, List.set_cons_succ, i64_w, i32_w]
              rfl
            refine pure_ (i := 18) (N := some 42) (v := undef) (a' := ?_) #[true, true, true, true, true, true, true, true, true, true, true, true, true, true, true, true, true, true, true, false, false, false, false, false, false, false] rfl rfl (zB HT_.out (by kernel_rfl)) (fun _ _ _ h => h) (Or.inr ⟨by rfl, rfl⟩) ?_ ?_
            rotate_left
            · simp only [Act.put, List.setIfInBounds_toArray, List.set_cons_zero, List.set_cons_succ, i64_w, i32_w]
              rfl
            refine pure_ (i := 19) (N := some 43) (v := ?_) (a' := ?_) #[true, true, true, true, true, true, true, true, true, true, true, true, true, true, true, true, true, true, true, true, false, false, false, false, false, false] rfl rfl (zB HT_.out (by kernel_rfl)) (fun _ _ _ h => h) (Or.inl ⟨by rfl, ?_⟩) ?_ ?_
            rotate_left
            · intro w'
              go_simp
              with_reducible rfl
            rotate_left
            · simp only [Act.put, List.setIfInBounds_toArray, List.set_cons_zero, List.set_cons_succ, i64_w, i32_w]
              rfl
            refine pure_ (i := 20) (N := some 44) (v := ?_) (a' := ?_) #[true, true, true, true, true, true, true, true, true, true, true, true, true, true, true, true, true, true, true, true, true, false, false, false, false, false] rfl rfl (zB HT_.out (by kernel_rfl)) (fun _ _ _ h => h) (Or.inl ⟨by rfl, ?_⟩) ?_ ?_
            rotate_left
            · intro w'
              go_simp
              with_reducible rfl
            rotate_left
            · simp only [Act.put, List.setIfInBounds_toArray, List.set_cons_zero, List.set_cons_succ, i64_w, i32_w]
              rfl
            refine pure_ (i := 21) (N := some 45) (v := undef) (a' := ?_) #[true, true, true, true, true, true, true, true, true, true, true, true, true, true, true, true, true, true, true, true, true, true, false, false, false, false] rfl rfl (zB HT_.out (by kernel_rfl)) (fun _ _ _ h => h) (Or.inr ⟨by rfl, rfl⟩) ?_ ?_
            rotate_left
            · simp only [Act.put, List.setIfInBounds_toArray, List.set_cons_zero, List.set_cons_succ, i64_w, i32_w]
              rfl
            refine pure_ (i := 22) (N := some 46) (v := undef) (a' := ?_) #[true, true, true, true, true, true, true, true, true, true, true, true, true, true, true, true, true, true, true, true, true, true, true, false, false, false] rfl rfl (zB HT_.out (by kernel_rfl)) (fun _ _ _ h => h) (Or.inr ⟨by rfl, rfl⟩) ?_ ?_
            rotate_left
            · simp only [Act.put, List.setIfInBounds_toArray, List.set_cons_zero, List.set_cons_succ, i64_w, i32_w]
              rfl
            refine pure_ (i := 23) (N := some 47) (v := undef) (a' := ?_) #[true, true, true, true, true, true, true, true, true, true, true, true, true, true, true, true, true, true, true, true, true, true, true, true, false, false] rfl rfl (zB HT_.out (by kernel_rfl)) (fun _ _ _ h => h) (Or.inr ⟨by rfl, rfl⟩) ?_ ?_
            rotate_left
            · simp only [Act.put, List.setIfInBounds_toArray, List.set_cons_zero, List.set_cons_succ, i64_w, i32_w]
              rfl
            refine pure_ (i := 24) (N := some 48) (v := undef) (a' := ?_) #[true, true, true, true, true, true, true, true, true, true, true, true, true, true, true, true, true, true, true, true, true, true, true, true, true, false] rfl rfl (zB HT_.out (by kernel_rfl)) (fun _ _ _ h => h) (Or.inr ⟨by rfl, rfl⟩) ?_ ?_
            rotate_left
            · simp only [Act.put, List.setIfInBounds_toArray, List.set_cons_zero, List.set_cons_succ, i64_w, i32_w]
              rfl
            refine pure_ (i := 25) (N := some 49) (v := ?_) (a' := ?_) #[true, true, true, true, true, true, true, true, true, true, true, true, true, true, true, true, true, true, true, true, true, true, true, true, true, true] rfl rfl (zB HT_.out (by kernel_rfl)) (fun _ _ _ h => h) (Or.inl ⟨by rfl, ?_⟩) ?_ ?_
            rotate_left
            · intro w'
              go_simp
              with_reducible rfl
            rotate_left
            · simp only [Act.put, List.setIfInBounds_toArray, List.set_cons_zero, List.set_cons_succ, i64_w, i32_w]
              rfl
            refine done_ (done_of HT_.out (by kernel_rfl)) ?_
            try go_wp2
            go_meet
            case rel => exact ⟨_, (true), (by first | rfl | (simp; done) | (simp [*]; done)), H', ⟨by first | omega | exact Nat.le_refl _⟩, ⟨by (with_reducible repeat (first | apply Kd.xA | apply Kd.xB | apply Kd.zW)); exact Kd.zX HO357.out (fun _ hk => hk.1)⟩, ⟨by (with_reducible repeat (first | apply Kd.zI | apply Kd.zH | apply Kd.zD)); exact Kd.qS HO360.out (fun _ hk => hk.1)⟩, ⟨Kd.Q_of_R (rw_ (Kd.qS HO368.out (fun _ hk => hk.1)))⟩, ⟨by (with_reducible repeat (first | apply Kd.zI | apply Kd.zH | apply Kd.zD)); exact Kd.qS HO371.out (fun _ hk => hk.1)⟩, ⟨by (with_reducible repeat (first | refine qH ?_ _ | refine qI ?_ | refine qG ?_ _)); exact BK365.out⟩, ⟨by (with_reducible repeat (first | refine qH ?_ _ | refine qI ?_ | refine qG ?_ _)); exact BK374.out⟩, ⟨by repeat (first | (with_reducible first | exact HB.out | apply qF | apply qB | apply qE | refine qD ?_ GE365.out | refine qD ?_ GE374.out) | exact HB.out)⟩⟩
          · rw [if_neg c22] at H
            have c22b0 : decide (t363 < (-1)) = false := decide_eq_false c22
            clear c22
            (first | rw [c22b0] | (simp only [i64_w, i32_w]; rw [c22b0]) | skip)
            by_cases c30 : t364 < 0
            · rw [if_pos c30] at H
              have c30b0 : decide (t364 < 0) = true := decide_eq_true c30
              clear c30
              have H' := Aside0.mk H
              clear H
              try go_wp2
              have n0_ : Aside0 (Kd.Q Kd.string 9 ((((w12.setCell ⟨gb374, 0, none⟩ (.slice Ao13 t366.length co13)).setCell ⟨gb374, 1, none⟩ (.slice Ao16 t369.length co16)).setCell ⟨gb374, 2, none⟩ (.int .i64 t372)).setCell ⟨gb374, 3, none⟩ (.int .i64 t373)) w.heap.size (fun k_ => some k_ ≠ (.slice Ao13 t366.length co13 : Value).ownBlock) (.slice Ao8 t355.length co8) t355) := ⟨by (with_reducible repeat (first | apply Kd.xA | apply Kd.xB | apply Kd.zW)); exact Kd.zX (Kd.Q_far (p := ⟨gb374, 3, none⟩) (Kd.Q_far (p := ⟨gb374, 2, none⟩) (Kd.Q_far (p := ⟨gb374, 1, none⟩) (Kd.Q_far (p := ⟨gb374, 0, none⟩) (Kd.xC HO357.out BK374.out (by decide)) (fun _ hk => hk.2) (.slice Ao13 t366.length co13)) (fun _ hk => hk.2) (.slice Ao16 t369.length co16)) (fun _ hk => hk.2) (.int .i64 t372)) (fun _ hk => hk.2) (.int .i64 t373)) (fun _ hk => hk.1.2)⟩
              have n1_ : Aside0 (Kd.R k70 70 ((((w12.setCell ⟨gb374, 0, none⟩ (.slice Ao13 t366.length co13)).setCell ⟨gb374, 1, none⟩ (.slice Ao16 t369.length co16)).setCell ⟨gb374, 2, none⟩ (.int .i64 t372)).setCell ⟨gb374, 3, none⟩ (.int .i64 t373)) w.heap.size (fun k_ => some k_ ≠ (.slice Ao16 t369.length co16 : Value).ownBlock) (.slice Ao10 t358.length co10) t358) := ⟨by (with_reducible repeat (first | apply Kd.zI | apply Kd.zH | apply Kd.zD)); exact Kd.qS (Kd.R_far (p := ⟨gb374, 3, none⟩) (Kd.R_far (p := ⟨gb374, 2, none⟩) (Kd.R_far (p := ⟨gb374, 1, none⟩) (Kd.R_far (p := ⟨gb374, 0, none⟩) (Kd.qW HO360.out BK374.out (by decide)) (fun _ hk => hk.2) (.slice Ao13 t366.length co13)) (fun _ hk => hk.2) (.slice Ao16 t369.length co16)) (fun _ hk => hk.2) (.int .i64 t372)) (fun _ hk => hk.2) (.int .i64 t373)) (fun _ hk => hk.1.2)⟩
              have n2_ : Aside0 (Kd.R Kd.string 9 ((((w12.setCell ⟨gb374, 0, none⟩ (.slice Ao13 t366.length co13)).setCell ⟨gb374, 1, none⟩ (.slice Ao16 t369.length co16)).setCell ⟨gb374, 2, none⟩ (.int .i64 t372)).setCell ⟨gb374, 3, none⟩ (.int .i64 t373)) w.heap.size (fun k_ => some k_ ≠ (.slice Ao8 t355.length co8 : Value).ownBlock) (.slice Ao13 t366.length co13) t366) := ⟨by (with_reducible repeat (first | apply Kd.zI | apply Kd.zH | apply Kd.zD)); exact Kd.qS (Kd.R_far (p := ⟨gb374, 3, none⟩) (Kd.R_far (p := ⟨gb374, 2, none⟩) (Kd.R_far (p := ⟨gb374, 1, none⟩) (Kd.R_far (p := ⟨gb374, 0, none⟩) (Kd.qW HO368.out BK374.out (by decide)) (fun _ hk => hk.2) (.slice Ao13 t366.length co13)) (fun _ hk => hk.2) (.slice Ao16 t369.length co16)) (fun _ hk => hk.2) (.int .i64 t372)) (fun _ hk => hk.2) (.int .i64 t373)) (fun _ hk => hk.1.2)⟩
              have n3_ : Aside0 (Kd.R k70 70 ((((w12.setCell ⟨gb374, 0, none⟩ (.slice Ao13 t366.length co13)).setCell ⟨gb374, 1, none⟩ (.slice Ao16 t369.length co16)).setCell ⟨gb374, 2, none⟩ (.int .i64 t372)).setCell ⟨gb374, 3, none⟩ (.int .i64 t373)) w.heap.size (fun k_ => some k_ ≠ (.slice Ao10 t358.length co10 : Value).ownBlock) (.slice Ao16 t369.length co16) t369) := ⟨by (with_reducible repeat (first | apply Kd.zI | apply Kd.zH | apply Kd.zD)); exact Kd.qS (Kd.R_far (p := ⟨gb374, 3, none⟩) (Kd.R_far (p := ⟨gb374, 2, none⟩) (Kd.R_far (p := ⟨gb374, 1, none⟩) (Kd.R_far (p := ⟨gb374, 0, none⟩) (Kd.qW HO371.out BK374.out (by decide)) (fun _ hk => hk.2) (.slice Ao13 t366.length co13)) (fun _ hk => hk.2) (.slice Ao16 t369.length co16)) (fun _ hk => hk.2) (.int .i64 t372)) (fun _ hk => hk.2) (.int .i64 t373)) (fun _ hk => hk.1.2)⟩
              have n4_ : Aside0 (((((w12.setCell ⟨gb374, 0, none⟩ (.slice Ao13 t366.length co13)).setCell ⟨gb374, 1, none⟩ (.slice Ao16 t369.length co16)).setCell ⟨gb374, 2, none⟩ (.int .i64 t372)).setCell ⟨gb374, 3, none⟩ (.int .i64 t373)).heap[gb365]? = some (.cells #[.slice Ao8 t355.length co8, .slice Ao10 t358.length co10, .int .i64 t361, .int .i64 t362] 26 (0, 0))) := ⟨by (with_reducible repeat (first | refine qH ?_ _ | refine qI ?_ | refine qG ?_ _)); refine qR ?_ NB365_374.out _; (with_reducible repeat (first | refine qH ?_ _ | refine qI ?_ | refine qG ?_ _)); refine qR ?_ NB365_374.out _; (with_reducible repeat (first | refine qH ?_ _ | refine qI ?_ | refine qG ?_ _)); refine qR ?_ NB365_374.out _; (with_reducible repeat (first | refine qH ?_ _ | refine qI ?_ | refine qG ?_ _)); refine qR ?_ NB365_374.out _; (with_reducible repeat (first | refine qH ?_ _ | refine qI ?_ | refine qG ?_ _)); exact BK365.out⟩
              have n5_ : Aside0 (((((w12.setCell ⟨gb374, 0, none⟩ (.slice Ao13 t366.length co13)).setCell ⟨gb374, 1, none⟩ (.slice Ao16 t369.length co16)).setCell ⟨gb374, 2, none⟩ (.int .i64 t372)).setCell ⟨gb374, 3, none⟩ (.int .i64 t373)).heap[gb374]? = some (.cells #[.slice Ao13 t366.length co13, .slice Ao16 t369.length co16, .int .i64 t372, .int .i64 t373] 26 (0, 0))) := ⟨by (with_reducible repeat (first | refine qH ?_ _ | refine qI ?_ | refine qG ?_ _)); refine qO (cs := #[.slice Ao13 t366.length co13, .slice Ao16 t369.length co16, .int .i64 t372, .int .i64 0]) ?_ 3 _ rfl; (with_reducible repeat (first | refine qH ?_ _ | refine qI ?_ | refine qG ?_ _)); refine qO (cs := #[.slice Ao13 t366.length co13, .slice Ao16 t369.length co16, .int .i64 0, .int .i64 0]) ?_ 2 _ rfl; (with_reducible repeat (first | refine qH ?_ _ | refine qI ?_ | refine qG ?_ _)); refine qO (cs := #[.slice Ao13 t366.length co13, .slice none 0 0, .int .i64 0, .int .i64 0]) ?_ 1 _ rfl; (with_reducible repeat (first | refine qH ?_ _ | refine qI ?_ | refine qG ?_ _)); refine qO (cs := #[.slice none 0 0, .slice none 0 0, .int .i64 0, .int .i64 0]) ?_ 0 _ rfl; (with_reducible repeat (first | refine qH ?_ _ | refine qI ?_ | refine qG ?_ _)); exact BK374.out⟩
              have n6_ : Aside0 (Below w.heap.size w ((((w12.setCell ⟨gb374, 0, none⟩ (.slice Ao13 t366.length co13)).setCell ⟨gb374, 1, none⟩ (.slice Ao16 t369.length co16)).setCell ⟨gb374, 2, none⟩ (.int .i64 t372)).setCell ⟨gb374, 3, none⟩ (.int .i64 t373))) := ⟨by repeat (first | (with_reducible first | exact HB.out | apply qF | apply qB | apply qE | refine qD ?_ GE365.out | refine qD ?_ GE374.out) | exact HB.out)⟩
              (try clear HO357)
              (try clear HO360)
              (try clear HO368)
              (try clear HO371)
              (try clear BK365)
              (try clear BK374)
              (try clear HB)
              generalize ((((w12.setCell ⟨gb374, 0, none⟩ (.slice Ao13 t366.length co13)).setCell ⟨gb374, 1, none⟩ (.slice Ao16 t369.length co16)).setCell ⟨gb374, 2, none⟩ (.int .i64 t372)).setCell ⟨gb374, 3, none⟩ (.int .i64 t373)) = w31 at n0_ n1_ n2_ n3_ n4_ n5_ n6_ ⊢
              have HO357 := n0_
              have HO360 := n1_
              have HO368 := n2_
              have HO371 := n3_
              have BK365 := n4_
              have BK374 := n5_
              have HB := n6_
              clear n0_ n1_ n2_ n3_ n4_ n5_ n6_
              have n0_ := Aside0.mk (Kd.zW HO357.out)
              have n1_ := Aside0.mk (Kd.zD HO360.out)
              have n2_ := Aside0.mk (Kd.zD HO368.out)
              have n3_ := Aside0.mk (Kd.zD HO371.out)
              have n4_ := Aside0.mk (qI BK365.out)
              have n5_ := Aside0.mk (qI BK374.out)
              have n6_ := Aside0.mk (qE HB.out)
              clear HO357
              clear HO360
              clear HO368
              clear HO371
              clear BK365
              clear BK374
              clear HB
              have HO357 := n0_
              have HO360 := n1_
              have HO368 := n2_
              have HO371 := n3_
              have BK365 := n4_
              have BK374 := n5_
              have HB := n6_
              clear n0_ n1_ n2_ n3_ n4_ n5_ n6_
              refine start_ (n := 26) (S := fun w' => w'.cell? ⟨gb374, 0, none⟩ = some (.slice Ao13 t366.length co13) ∧ w'.cell? ⟨gb374, 1, none⟩ = some (.slice Ao16 t369.length co16) ∧ w'.cell? ⟨gb374, 2, none⟩ = some (.int .i64 t372) ∧ w'.cell? ⟨gb374, 3, none⟩ = some (.int .i64 t373) ∧ w'.cell? ⟨gb365, 0, none⟩ = some (.slice Ao8 t355.length co8) ∧ w'.cell? ⟨gb365, 1, none⟩ = some (.slice Ao10 t358.length co10) ∧ w'.cell? ⟨gb365, 2, none⟩ = some (.int .i64 t361) ∧ w'.cell? ⟨gb365, 3, none⟩ = some (.int .i64 t362)) (ds := []) #[false, false, false, false, false, false, false, false, false, false, false, false, false, false, false, false, false, false, false, false, false, false, false, false, false, false] (by kernel_rfl) rfl rfl ⟨(qA BK374.out 0).trans rfl, (qA BK374.out 1).trans rfl, (qA BK374.out 2).trans rfl, (qA BK374.out 3).trans rfl, (qA BK365.out 0).trans rfl, (qA BK365.out 1).trans rfl, (qA BK365.out 2).trans rfl, (qA BK365.out 3).trans rfl⟩ (fun hHeld => ?_); refine xH laws_FnDiskLeft.tab5 laws_FnDiskLeft.bits5 (fun HT_ HW_ => ?_)
              generalize w31.drew = w32 at HO357 HO360 HO368 HO371 BK365 BK374 HB hHeld ⊢
              refine pure_ (i := 2) (N := some 26) (v := ?_) (a' := ?_) #[false, false, true, false, false, false, false, false, false, false, false, false, false, false, false, false, false, false, false, false, false, false, false, false, false, false] rfl rfl (zB HT_.out (by kernel_rfl)) (fun _ _ _ h => h) (Or.inl ⟨by rfl, ?_⟩) ?_ ?_
              rotate_left
              · intro w'
                go_simp
                with_reducible rfl
              rotate_left
              · simp only [Act.put, List.setIfInBounds_toArray, List.set_cons_zero, List.set_cons_succ, i64_w, i32_w]
                rfl
              refine pure_ (i := 3) (N := some 27) (v := ?_) (a' := ?_) #[false, false, true, true, false, false, false, false, false, false, false, false, false, false, false, false, false, false, false, false, false, false, false, false, false, false] rfl rfl (zB HT_.out (by kernel_rfl)) (fun _ _ _ h => h) (Or.inl ⟨by rfl, ?_⟩) ?_ ?_
              rotate_left
              · intro w'
                go_simp
                with_reducible rfl
              rotate_left
              · simp only [Act.put, List.setIfInBounds_toArray, List.set_cons_zero, List.set_cons_succ, i64_w, i32_w]
                rfl
              refine take_ (i := 0) (N := some 24) (v := ?_) (a' := ?_) #[true, false, true, true, false, false, false, false, false, false, false, false, false, false, false, false, false, false, false, false, false, false, false, false, false, false] rfl rfl (zQ HT_.out HW_.out (by kernel_rfl)) (fun _ _ _ h => h) (Or.inl ⟨by rfl, ?_⟩) hHeld ?_ ?_
              rotate_left
              · rintro w' ⟨s0, s1, s2, s3, s4, s5, s6, s7⟩
                go_simp
                with_reducible rfl
              rotate_left
              · simp only [Act.put, List.setIfInBounds_toArray, List.set_cons_zero, List.set_cons_succ, i64_w, i32_w]
                rfl
              refine take_ (i := 1) (N := some 25) (v := ?_) (a' := ?_) #[true, true, true, true, false, false, false, false, false, false, false, false, false, false, false, false, false, false, false, false, false, false, false, false, false, false] rfl rfl (zQ HT_.out HW_.out (by kernel_rfl)) (fun _ _ _ h => h) (Or.inl ⟨by rfl, ?_⟩) hHeld ?_ ?_
              rotate_left
              · rintro w' ⟨s0, s1, s2, s3, s4, s5, s6, s7⟩
                go_simp
                with_reducible rfl
              rotate_left
              · simp only [Act.put, List.setIfInBounds_toArray, List.set_cons_zero, List.set_cons_succ, i64_w, i32_w]
                rfl
              refine one_ (i := 4) (N := some 28) #[true, true, true, true, true, false, false, false, false, false, false, false, false, false, false, false, false, false, false, false, false, false, false, false, false, false] rfl rfl (zT HT_.out (by kernel_rfl)) (by decide) (fun K hK => ?_)
              refine goes_ Try.func14 (by kernel_rfl) rfl #[.agg #[.slice Ao8 t355.length co8, .slice Ao10 t358.length co10, .int .i64 t361, .int .i64 t362], .int .i64 t363, .int .i64 t364] (by rfl) rfl rfl (by (try simp only [List.map_toArray, List.map_cons, List.map_nil]); first | done | rfl | (simp only [List.length_drop, List.length_take]; rfl)) ?_
              with_reducible refine (spec_DiskSet.calls k _ _ t355 _ _ t358 t361 t362 t363 t364 t375 t378 t381 t382 _ ?side1 ?side2 ?side3 ?side4 A17.out).mono ?_
              (case side1 => repeat (first | exact (Kd.zN HO357.out).2.2 | (with_reducible refine Kd.qX ?_ _) | (with_reducible refine Kd.qY ?_ _) | (with_reducible refine Kd.zC ?_)))
              (case side2 => exact (Kd.zN HO357.out).2.1)
              (case side3 => repeat (first | exact (Kd.qT HO360.out).2.2 | (with_reducible refine Kd.qX ?_ _) | (with_reducible refine Kd.qY ?_ _) | (with_reducible refine Kd.zC ?_)))
              (case side4 => exact (Kd.qT HO360.out).2.1)
              rintro e w33 ⟨v376, v379, rfl, ho0, ho1, hb⟩
              refine ⟨_, rfl, ?_⟩
              have n0_ := Aside0.mk (Kd.xD (qw_ HO357.out) (Kd.zP ho0) hb)
              have n1_ := Aside0.mk (Kd.zO (rw_ HO360.out) (Kd.zP ho1) hb)
              have n2_ := Aside0.mk (Kd.zO (rw_ HO368.out) (Kd.zP ho0) hb)
              have n3_ := Aside0.mk (Kd.zO (rw_ HO371.out) (Kd.zP ho1) hb)
              have n4_ := Aside0.mk (Kd.zJ (Kd.zR (Kd.zR ho0 (Kd.Q_lt (qw_ HO357.out))) (Kd.R_lt (rw_ HO368.out))) (qK (by repeat (first | (with_reducible first | exact HB.out | apply qF | apply qB | apply qE | refine qD ?_ GE365.out | refine qD ?_ GE374.out) | exact HB.out))))
              have n5_ := Aside0.mk (Kd.zJ (Kd.zR (Kd.zR ho1 (Kd.R_lt (rw_ HO360.out))) (Kd.R_lt (rw_ HO371.out))) (qK (by repeat (first | (with_reducible first | exact HB.out | apply qF | apply qB | apply qE | refine qD ?_ GE365.out | refine qD ?_ GE374.out) | exact HB.out))))
              have n6_ := Aside0.mk (qJ (g := gb365) (o := .cells #[.slice Ao8 t355.length co8, .slice Ao10 t358.length co10, .int .i64 t361, .int .i64 t362] 26 (0, 0)) (bw_ BK365.out) hb)
              have n7_ := Aside0.mk (qJ (g := gb374) (o := .cells #[.slice Ao13 t366.length co13, .slice Ao16 t369.length co16, .int .i64 t372, .int .i64 t373] 26 (0, 0)) (bw_ BK374.out) hb)
              have n8_ := Aside0.mk (qL (by repeat (first | (with_reducible first | exact HB.out | apply qF | apply qB | apply qE | refine qD ?_ GE365.out | refine qD ?_ GE374.out) | exact HB.out)) hb)
              clear HO357
              clear HO360
              clear HO368
              clear HO371
              clear BK365
              clear BK374
              clear HB
              have HO357 := n0_
              have HO360 := n1_
              have HO368 := n2_
              have HO371 := n3_
              have HO377 := n4_
              have HO380 := n5_
              have BK365 := n6_
              have BK374 := n7_
              have HB := n8_
              clear n0_ n1_ n2_ n3_ n4_ n5_ n6_ n7_ n8_
              (try clear hb)
              (try clear hb2)
              (try clear hk)
              (try clear hi)
              (try clear ho0)
              (try clear ho1)
              obtain ⟨Ao34, co34, eo34⟩ := Kd.zE HO377.out
              (first | subst eo34 | (injection eo34 with f1_ f2_ f3_; have f4_ := f1_.symm; have f5_ := f3_.symm; clear f1_ f2_ f3_; subst f4_; subst f5_))
              obtain ⟨Ao35, co35, eo35⟩ := Kd.zE HO380.out
              (first | subst eo35 | (injection eo35 with f1_ f2_ f3_; have f4_ := f1_.symm; have f5_ := f3_.symm; clear f1_ f2_ f3_; subst f4_; subst f5_))
              refine hK.out _ _ ⟨(qA BK374.out 0).trans rfl, (qA BK374.out 1).trans rfl, (qA BK374.out 2).trans rfl, (qA BK374.out 3).trans rfl, (qA BK365.out 0).trans rfl, (qA BK365.out 1).trans rfl, (qA BK365.out 2).trans rfl, (qA BK365.out 3).trans rfl⟩ (fun hHeld => ?_)
              clear hK K
              refine norm_ (a' := ?_) ?_ ?_
              rotate_left
              · show Act.put _ (some 28) _ = _
                simp only [Act.put, List.setIfInBounds_toArray, List.set_cons_zero, List.set_cons_succ, i64_w, i32_w]
                rfl
              refine one_ (i := 5) (N := some 29) #[true, true, true, true, true, true, false, false, false, false, false, false, false, false, false, false, false, false, false, false, false, false, false, false, false, false] rfl rfl (zT HT_.out (by kernel_rfl)) (by decide) (fun K hK => ?_)
              refine goes_ Try.func13 (by kernel_rfl) rfl #[.agg #[.slice Ao13 t366.length co13, .slice Ao16 t369.length co16, .int .i64 t372, .int .i64 t373], .agg #[.slice Ao34 t375.length co34, .slice Ao35 t378.length co35, .int .i64 t381, .int .i64 t382]] (by rfl) rfl rfl (by (try simp only [List.map_toArray, List.map_cons, List.map_nil]); first | done | rfl | (simp only [List.length_drop, List.length_take]; rfl)) ?_
              with_reducible refine (laws_jtDisk.calls k _ _ t366 _ _ t369 t372 t373 _ _ t375 _ _ t378 t381 t382 true _ ?side1 ?side2 ?side3 ?side4 ?side5 ?side6 ?side7 ?side8 A18.out).mono ?_
              (case side1 => repeat (first | exact (Kd.qT HO368.out).2.2 | (with_reducible refine Kd.qX ?_ _) | (with_reducible refine Kd.qY ?_ _) | (with_reducible refine Kd.zC ?_)))
              (case side2 => exact (Kd.qT HO368.out).2.1)
              (case side3 => repeat (first | exact (Kd.qT HO371.out).2.2 | (with_reducible refine Kd.qX ?_ _) | (with_reducible refine Kd.qY ?_ _) | (with_reducible refine Kd.zC ?_)))
              (case side4 => exact (Kd.qT HO371.out).2.1)
              (case side5 => repeat (first | exact (Kd.qT HO377.out).2.2 | (with_reducible refine Kd.qX ?_ _) | (with_reducible refine Kd.qY ?_ _) | (with_reducible refine Kd.zC ?_)))
              (case side6 => exact (Kd.qT HO377.out).2.1)
              (case side7 => repeat (first | exact (Kd.qT HO380.out).2.2 | (with_reducible refine Kd.qX ?_ _) | (with_reducible refine Kd.qY ?_ _) | (with_reducible refine Kd.zC ?_)))
              (case side8 => exact (Kd.qT HO380.out).2.1)
              rintro e w36 ⟨rfl, hb⟩
              refine ⟨_, rfl, ?_⟩
              have n0_ := Aside0.mk (Kd.zU (qw_ HO357.out) hb)
              have n1_ := Aside0.mk (Kd.qZ (rw_ HO360.out) hb)
              have n2_ := Aside0.mk (Kd.qZ (rw_ HO368.out) hb)
              have n3_ := Aside0.mk (Kd.qZ (rw_ HO371.out) hb)
              have n4_ := Aside0.mk (Kd.qZ (rw_ HO377.out) hb)
              have n5_ := Aside0.mk (Kd.qZ (rw_ HO380.out) hb)
              have n6_ := Aside0.mk (qJ (g := gb365) (o := .cells #[.slice Ao8 t355.length co8, .slice Ao10 t358.length co10, .int .i64 t361, .int .i64 t362] 26 (0, 0)) (bw_ BK365.out) hb)
              have n7_ := Aside0.mk (qJ (g := gb374) (o := .cells #[.slice Ao13 t366.length co13, .slice Ao16 t369.length co16, .int .i64 t372, .int .i64 t373] 26 (0, 0)) (bw_ BK374.out) hb)
              have n8_ := Aside0.mk (qL (by repeat (first | (with_reducible first | exact HB.out | apply qF | apply qB | apply qE | refine qD ?_ GE365.out | refine qD ?_ GE374.out) | exact HB.out)) hb)
              clear HO357
              clear HO360
              clear HO368
              clear HO371
              clear HO377
              clear HO380
              clear BK365
              clear BK374
              clear HB
              have HO357 := n0_
              have HO360 := n1_
              have HO368 := n2_
              have HO371 := n3_
              have HO377 := n4_
              have HO380 := n5_
              have BK365 := n6_
              have BK374 := n7_
              have HB := n8_
              clear n0_ n1_ n2_ n3_ n4_ n5_ n6_ n7_ n8_
              (try clear hb)
              (try clear hb2)
              (try clear hk)
              (try clear hi)
              refine hK.out _ _ ⟨(qA BK374.out 0).trans rfl, (qA BK374.out 1).trans rfl, (qA BK374.out 2).trans rfl, (qA BK374.out 3).trans rfl, (qA BK365.out 0).trans rfl, (qA BK365.out 1).trans rfl, (qA BK365.out 2).trans rfl, (qA BK365.out 3).trans rfl⟩ (fun hHeld => ?_)
              clear hK K
              refine norm_ (a' := ?_) ?_ ?_
              rotate_left
              · show Act.put _ (some 29) _ = _
                simp only [Act.put, List.setIfInBounds_toArray, List.set_cons_zero, List.set_cons_succ, i64_w, i32_w]
                rfl
              refine pure_ (i := 6) (N := some 30) (v := ?_) (a' := ?_) #[true, true, true, true, true, true, true, false, false, false, false, false, false, false, false, false, false, false, false, false, false, false, false, false, false, false] rfl rfl (zB HT_.out (by kernel_rfl)) (fun _ _ _ h => h) (Or.inl ⟨by rfl, ?_⟩) ?_ ?_
              rotate_left
              · intro w'
                go_simp
                with_reducible rfl
              rotate_left
              · simp only [Act.put, List.setIfInBounds_toArray, List.set_cons_zero, List.set_cons_succ, i64_w, i32_w]
                rfl
              refine pure_ (i := 7) (N := some 31) (v := ?_) (a' := ?_) #[true, true, true, true, true, true, true, true, false, false, false, false, false, false, false, false, false, false, false, false, false, false, false, false, false, false] rfl rfl (zB HT_.out (by kernel_rfl)) (fun _ _ _ h => h) (Or.inl ⟨by rfl, ?_⟩) ?_ ?_
              rotate_left
              · intro w'
                go_simp
                with_reducible rfl
              rotate_left
              · simp only [Act.put, List.setIfInBounds_toArray, List.set_cons_zero, List.set_cons_succ, i64_w, i32_w]
                rfl
              refine take_ (i := 8) (N := some 32) (v := ?_) (a' := ?_) #[true, true, true, true, true, true, true, true, true, false, false, false, false, false, false, false, false, false, false, false, false, false, false, false, false, false] rfl rfl (zQ HT_.out HW_.out (by kernel_rfl)) (fun _ _ _ h => h) (Or.inl ⟨by rfl, ?_⟩) hHeld ?_ ?_
              rotate_left
              · rintro w' ⟨s0, s1, s2, s3, s4, s5, s6, s7⟩
                go_simp
                with_reducible rfl
              rotate_left
              · simp only [Act.put, List.setIfInBounds_toArray, List.set_cons_zero, List.set_cons_succ, i64_w, i32_w]
                rfl
              refine one_ (i := 9) (N := some 33) #[true, true, true, true, true, true, true, true, true, true, false, false, false, false, false, false, false, false, false, false, false, false, false, false, false, false] rfl rfl (zT HT_.out (by kernel_rfl)) (by decide) (fun K hK => ?_)
              refine goes_ Try.func15 (by kernel_rfl) rfl #[.agg #[.slice Ao8 t355.length co8, .slice Ao10 t358.length co10, .int .i64 t361, .int .i64 t362]] (by rfl) rfl rfl (by (try simp only [List.map_toArray, List.map_cons, List.map_nil]); first | done | rfl | (simp only [List.length_drop, List.length_take]; rfl)) ?_
              with_reducible refine (spec_DiskOk.calls k _ _ t355 _ _ t358 t361 t362 true _ ?side1 ?side2 ?side3 ?side4 A20.out).mono ?_
              (case side1 => repeat (first | exact (Kd.zN HO357.out).2.2 | (with_reducible refine Kd.qX ?_ _) | (with_reducible refine Kd.qY ?_ _) | (with_reducible refine Kd.zC ?_)))
              (case side2 => exact (Kd.zN HO357.out).2.1)
              (case side3 => repeat (first | exact (Kd.qT HO360.out).2.2 | (with_reducible refine Kd.qX ?_ _) | (with_reducible refine Kd.qY ?_ _) | (with_reducible refine Kd.zC ?_)))
              (case side4 => exact (Kd.qT HO360.out).2.1)
              rintro e w37 ⟨rfl, hb⟩
              refine ⟨_, rfl, ?_⟩
              have n0_ := Aside0.mk (Kd.zU (qw_ HO357.out) hb)
              have n1_ := Aside0.mk (Kd.qZ (rw_ HO360.out) hb)
              have n2_ := Aside0.mk (Kd.qZ (rw_ HO368.out) hb)
              have n3_ := Aside0.mk (Kd.qZ (rw_ HO371.out) hb)
              have n4_ := Aside0.mk (Kd.qZ (rw_ HO377.out) hb)
              have n5_ := Aside0.mk (Kd.qZ (rw_ HO380.out) hb)
              have n6_ := Aside0.mk (qJ (g := gb365) (o := .cells #[.slice Ao8 t355.length co8, .slice Ao10 t358.length co10, .int .i64 t361, .int .i64 t362] 26 (0, 0)) (bw_ BK365.out) hb)
              have n7_ := Aside0.mk (qJ (g := gb374) (o := .cells #[.slice Ao13 t366.length co13, .slice Ao16 t369.length co16, .int .i64 t372, .int .i64 t373] 26 (0, 0)) (bw_ BK374.out) hb)
              have n8_ := Aside0.mk (qL (by repeat (first | (with_reducible first | exact HB.out | apply qF | apply qB | apply qE | refine qD ?_ GE365.out | refine qD ?_ GE374.out) | exact HB.out)) hb)
              clear HO357
              clear HO360
              clear HO368
              clear HO371
              clear HO377
              clear HO380
              clear BK365
              clear BK374
              clear HB
              have HO357 := n0_
              have HO360 := n1_
              have HO368 := n2_
              have HO371 := n3_
              have HO377 := n4_
              have HO380 := n5_
              have BK365 := n6_
              have BK374 := n7_
              have HB := n8_
              clear n0_ n1_ n2_ n3_ n4_ n5_ n6_ n7_ n8_
              (try clear hb)
              (try clear hb2)
              (try clear hk)
              (try clear hi)
              refine hK.out _ _ ⟨(qA BK374.out 0).trans rfl, (qA BK374.out 1).trans rfl, (qA BK374.out 2).trans rfl, (qA BK374.out 3).trans rfl, (qA BK365.out 0).trans rfl, (qA BK365.out 1).trans rfl, (qA BK365.out 2).trans rfl, (qA BK365.out 3).trans rfl⟩ (fun hHeld => ?_)
              clear hK K
              refine norm_ (a' := ?_) ?_ ?_
              rotate_left
              · show Act.put _ (some 33) _ = _
                simp only [Act.put, List.setIfInBounds_toArray, List.set_cons_zero, List.set_cons_succ, i64_w, i32_w]
                rfl
              refine pure_ (i := 10) (N := some 34) (v := ?_) (a' := ?_) #[true, true, true, true, true, true, true, true, true, true, true, false, false, false, false, false, false, false, false, false, false, false, false, false, false, false] rfl rfl (zB HT_.out (by kernel_rfl)) (fun _ _ _ h => h) (Or.inl ⟨by rfl, ?_⟩) ?_ ?_
              rotate_left
              · intro w'
                go_simp
                with_reducible rfl
              rotate_left
              · simp only [Act.put, List.setIfInBounds_toArray, List.set_cons_zero, List.set_cons_succ, i64_w, i32_w]
                rfl
              refine pure_ (i := 11) (N := some 35) (v := ?_) (a' := ?_) #[true, true, true, true, true, true, true, true, true, true, true, true, false, false, false, false, false, false, false, false, false, false, false, false, false, false] rfl rfl (zB HT_.out (by kernel_rfl)) (fun _ _ _ h => h) (Or.inl ⟨by rfl, ?_⟩) ?_ ?_
              rotate_left
              · intro w'
                go_simp
                with_reducible rfl
              rotate_left
              · simp only [Act.put, List.setIfInBounds_toArray, List.set_cons_zero, List.set_cons_succ, i64_w, i32_w]
                rfl
              refine pure_ (i := 12) (N := some 36) (v := ?_) (a' := ?_) #[true, true, true, true, true, true, true, true, true, true, true, true, true, false, false, false, false, false, false, false, false, false, false, false, false, false] rfl rfl (zB HT_.out (by kernel_rfl)) (fun _ _ _ h => h) (Or.inl ⟨by rfl, ?_⟩) ?_ ?_
              rotate_left
              · intro w'
                go_simp
                with_reducible rfl
              rotate_left
              · simp only [Act.put, List.setIfInBounds_toArray, List.set_cons_zero, List.set_cons_succ, i64_w, i32_w]
                rfl
              refine pure_ (i := 13) (N := some 37) (v := ?_) (a' := ?_) #[true, true, true, true, true, true, true, true, true, true, true, true, true, true, false, false, false, false, false, false, false, false, false, false, false, false] rfl rfl (zB HT_.out (by kernel_rfl)) (fun _ _ _ h => h) (Or.inl ⟨by rfl, ?_⟩) ?_ ?_
              rotate_left
              · intro w'
                go_simp
                with_reducible rfl
              rotate_left
              · simp only [Act.put, List.setIfInBounds_toArray, List.set_cons_zero, List.set_cons_succ, i64_w, i32_w]
                rfl
              refine pure_ (i := 14) (N := some 38) (v := ?_) (a' := ?_) #[true, true, true, true, true, true, true, true, true, true, true, true, true, true, true, false, false, false, false, false, false, false, false, false, false, false] rfl rfl (zB HT_.out (by kernel_rfl)) (fun _ _ _ h => h) (Or.inl ⟨by rfl, ?_⟩) ?_ ?_
              rotate_left
              · intro w'
                go_simp
                with_reducible rfl
              rotate_left
              · simp only [Act.put, List.setIfInBounds_toArray, List.set_cons_zero, List.set_cons_succ, i64_w, i32_w]
                rfl
              refine pure_ (i := 15) (N := some 39) (v := ?_) (a' := ?_) #[true, true, true, true, true, true, true, true, true, true, true, true, true, true, true, true, false, false, false, false, false, false, false, false, false, false] rfl rfl (zB HT_.out (by kernel_rfl)) (fun _ _ _ h => h) (Or.inl ⟨by rfl, ?_⟩) ?_ ?_
              rotate_left
              · intro w'
                go_simp
                with_reducible rfl
              rotate_left
              · simp only [Act.put, List.setIfInBounds_toArray, List.set_cons_zero, List.set_cons_succ, i64_w, i32_w]
                rfl
              refine pure_ (i := 16) (N := some 40) (v := ?_) (a' := ?_) #[true, true, true, true, true, true, true, true, true, true, true, true, true, true, true, true, true, false, false, false, false, false, false, false, false, false] rfl rfl (zB HT_.out (by kernel_rfl)) (fun _ _ _ h => h) (Or.inl ⟨by rfl, ?_⟩) ?_ ?_
              rotate_left
              · intro w'
                go_simp
                with_reducible rfl
              rotate_left
              · simp only [Act.put, List.setIfInBounds_toArray, List.set_cons_zero, List.set_cons_succ, i64_w, i32_w]
                rfl
              refine pure_ (i := 17) (N := some 41) (v := ?_) (a' := ?_) #[true, true, true, true, true, true, true, true, true, true, true, true, true, true, true, true, true, true, false, false, false, false, false, false, false, false] rfl rfl (zB HT_.out (by kernel_rfl)) (fun _ _ _ h => h) (Or.inl ⟨by rfl, ?_⟩) ?_ ?_
              rotate_left
              · intro w'
                go_simp
                with_reducible rfl
              rotate_left
              · simp only [Act.put, List.setIfInBounds_toArray, List.set_cons_zero, List.set_cons_succ, i64_w, i32_w]
                rfl
              refine pure_ (i := 18) (N := some 42) (v := ?_) (a' := ?_) #[true, true, true, true, true, true, true, true, true, true, true, true, true, true, true, true, true, true, true, false, false, false, false, false, false, false] rfl rfl (zB HT_.out (by kernel_rfl)) (fun _ _ _ h => h) (Or.inl ⟨by rfl, ?_⟩) ?_ ?_
              rotate_left
              · intro w'
                go_simp
                with_reducible rfl
              rotate_left
              · simp only [Act.put, List.setIfInBounds_toArray, List.set_cons_zero, List.set_cons_succ, i64_w, i32_w]
                rfl
              refine pure_ (i := 19) (N := some 43) (v := ?_) (a' := ?_) #[true, true, true, true, true, true, true, true, true, true, true, true, true, true, true, true, true, true, true, true, false, false, false, false, false, false] rfl rfl (zB HT_.out (by kernel_rfl)) (fun _ _ _ h => h) (Or.inl ⟨by rfl, ?_⟩) ?_ ?_
              rotate_left
              · intro w'
                go_simp
                with_reducible rfl
              rotate_left
              · simp only [Act.put, List.setIfInBounds_toArray, List.set_cons_zero, List.set_cons_succ, i64_w, i32_w]
                rfl
              refine pure_ (i := 20) (N := some 44) (v := ?_) (a' := ?_) #[true, true, true, true, true, true, true, true, true, true, true, true, true, true, true, true, true, true, true, true, true, false, false, false, false, false] rfl rfl (zB HT_.out (by kernel_rfl)) (fun _ _ _ h => h) (Or.inl ⟨by rfl, ?_⟩) ?_ ?_
              rotate_left
              · intro w'
                go_simp
                with_reducible rfl
              rotate_left
              · simp only [Act.put, List.setIfInBounds_toArray, List.set_cons_zero, List.set_cons_succ, i64_w, i32_w]
                rfl
              refine pure_ (i := 21) (N := some 45) (v := undef) (a' := ?_) #[true, true, true, true, true, true, true, true, true, true, true, true, true, true, true, true, true, true, true, true, true, true, false, false, false, false] rfl rfl (zB HT_.out (by kernel_rfl)) (fun _ _ _ h => h) (Or.inr ⟨by rfl, rfl⟩) ?_ ?_
              rotate_left
              · simp only [Act.put, List.setIfInBounds_toArray, List.set_cons_zero, List.set_cons_succ, i64_w, i32_w]
                rfl
              refine pure_ (i := 22) (N := some 46) (v := undef) (a' := ?_) #[true, true, true, true, true, true, true, true, true, true, true, true, true, true, true, true, true, true, true, true, true, true, true, false, false, false] rfl rfl (zB HT_.out (by kernel_rfl)) (fun _ _ _ h => h) (Or.inr ⟨by rfl, rfl⟩) ?_ ?_
              rotate_left
              · simp only [Act.put, List.setIfInBounds_toArray, List.set_cons_zero, List.set_cons_succ, i64_w, i32_w]
                rfl
              refine pure_ (i := 23) (N := some 47) (v := undef) (a' := ?_) #[true, true, true, true, true, true, true, true, true, true, true, true, true, true, true, true, true, true, true, true, true, true, true, true, false, false] rfl rfl (zB HT_.out (by kernel_rfl)) (fun _ _ _ h => h) (Or.inr ⟨by rfl, rfl⟩) ?_ ?_
              rotate_left
              · simp only [Act.put, List.setIfInBounds_toArray, List.set_cons_zero, List.set_cons_succ, i64_w, i32_w]
                rfl
              refine pure_ (i := 24) (N := some 48) (v := undef) (a' := ?_) #[true, true, true, true, true, true, true, true, true, true, true, true, true, true, true, true, true, true, true, true, true, true, true, true, true, false] rfl rfl (zB HT_.out (by kernel_rfl)) (fun _ _ _ h => h) (Or.inr ⟨by rfl, rfl⟩) ?_ ?_
              rotate_left
              · simp only [Act.put, List.setIfInBounds_toArray, List.set_cons_zero, List.set_cons_succ, i64_w, i32_w]
                rfl
              refine pure_ (i := 25) (N := some 49) (v := ?_) (a' := ?_) #[true, true, true, true, true, true, true, true, true, true, true, true, true, true, true, true, true, true, true, true, true, true, true, true, true, true] rfl rfl (zB HT_.out (by kernel_rfl)) (fun _ _ _ h => h) (Or.inl ⟨by rfl, ?_⟩) ?_ ?_
              rotate_left
              · intro w'
                go_simp
                with_reducible rfl
              rotate_left
              · simp only [Act.put, List.setIfInBounds_toArray, List.set_cons_zero, List.set_cons_succ, i64_w, i32_w]
                rfl
              refine done_ (done_of HT_.out (by kernel_rfl)) ?_
              try go_wp2
              go_meet
              case rel => exact ⟨_, (true), (by first | rfl | (simp; done) | (simp [*]; done)), H', ⟨by first | omega | exact Nat.le_refl _⟩, ⟨by (with_reducible repeat (first | apply Kd.xA | apply Kd.xB | apply Kd.zW)); exact Kd.zX HO357.out (fun _ hk => hk.1)⟩, ⟨by (with_reducible repeat (first | apply Kd.zI | apply Kd.zH | apply Kd.zD)); exact Kd.qS HO360.out (fun _ hk => hk.1)⟩, ⟨Kd.Q_of_R (rw_ (Kd.qS HO368.out (fun _ hk => hk.1)))⟩, ⟨by (with_reducible repeat (first | apply Kd.zI | apply Kd.zH | apply Kd.zD)); exact Kd.qS HO371.out (fun _ hk => hk.1)⟩, ⟨by (with_reducible repeat (first | refine qH ?_ _ | refine qI ?_ | refine qG ?_ _)); exact BK365.out⟩, ⟨by (with_reducible repeat (first | refine qH ?_ _ | refine qI ?_ | refine qG ?_ _)); exact BK374.out⟩, ⟨by repeat (first | (with_reducible first | exact HB.out | apply qF | apply qB | apply qE | refine qD ?_ GE365.out | refine qD ?_ GE374.out) | exact HB.out)⟩⟩
            · rw [if_neg c30] at H
              have c30b0 : decide (t364 < 0) = false := decide_eq_false c30
              clear c30
              have H' := Aside0.mk H
              clear H
              try go_wp2
              have n0_ : Aside0 (Kd.Q Kd.string 9 ((((w12.setCell ⟨gb374, 0, none⟩ (.slice Ao13 t366.length co13)).setCell ⟨gb374, 1, none⟩ (.slice Ao16 t369.length co16)).setCell ⟨gb374, 2, none⟩ (.int .i64 t372)).setCell ⟨gb374, 3, none⟩ (.int .i64 t373)) w.heap.size (fun k_ => some k_ ≠ (.slice Ao13 t366.length co13 : Value).ownBlock) (.slice Ao8 t355.length co8) t355) := ⟨by (with_reducible repeat (first | apply Kd.xA | apply Kd.xB | apply Kd.zW)); exact Kd.zX (Kd.Q_far (p := ⟨gb374, 3, none⟩) (Kd.Q_far (p := ⟨gb374, 2, none⟩) (Kd.Q_far (p := ⟨gb374, 1, none⟩) (Kd.Q_far (p := ⟨gb374, 0, none⟩) (Kd.xC HO357.out BK374.out (by decide)) (fun _ hk => hk.2) (.slice Ao13 t366.length co13)) (fun _ hk => hk.2) (.slice Ao16 t369.length co16)) (fun _ hk => hk.2) (.int .i64 t372)) (fun _ hk => hk.2) (.int .i64 t373)) (fun _ hk => hk.1.2)⟩
              have n1_ : Aside0 (Kd.R k70 70 ((((w12.setCell ⟨gb374, 0, none⟩ (.slice Ao13 t366.length co13)).setCell ⟨gb374, 1, none⟩ (.slice Ao16 t369.length co16)).setCell ⟨gb374, 2, none⟩ (.int .i64 t372)).setCell ⟨gb374, 3, none⟩ (.int .i64 t373)) w.heap.size (fun k_ => some k_ ≠ (.slice Ao16 t369.length co16 : Value).ownBlock) (.slice Ao10 t358.length co10) t358) := ⟨by (with_reducible repeat (first | apply Kd.zI | apply Kd.zH | apply Kd.zD)); exact Kd.qS (Kd.R_far (p := ⟨gb374, 3, none⟩) (Kd.R_far (p := ⟨gb374, 2, none⟩) (Kd.R_far (p := ⟨gb374, 1, none⟩) (Kd.R_far (p := ⟨gb374, 0, none⟩) (Kd.qW HO360.out BK374.out (by decide)) (fun _ hk => hk.2) (.slice Ao13 t366.length co13)) (fun _ hk => hk.2) (.slice Ao16 t369.length co16)) (fun _ hk => hk.2) (.int .i64 t372)) (fun _ hk => hk.2) (.int .i64 t373)) (fun _ hk => hk.1.2)⟩
              have n2_ : Aside0 (Kd.R Kd.string 9 ((((w12.setCell ⟨gb374, 0, none⟩ (.slice Ao13 t366.length co13)).setCell ⟨gb374, 1, none⟩ (.slice Ao16 t369.length co16)).setCell ⟨gb374, 2, none⟩ (.int .i64 t372)).setCell ⟨gb374, 3, none⟩ (.int .i64 t373)) w.heap.size (fun k_ => some k_ ≠ (.slice Ao8 t355.length co8 : Value).ownBlock) (.slice Ao13 t366.length co13) t366) := ⟨by (with_reducible repeat (first | apply Kd.zI | apply Kd.zH | apply Kd.zD)); exact Kd.qS (Kd.R_far (p := ⟨gb374, 3, none⟩) (Kd.R_far (p := ⟨gb374, 2, none⟩) (Kd.R_far (p := ⟨gb374, 1, none⟩) (Kd.R_far (p := ⟨gb374, 0, none⟩) (Kd.qW HO368.out BK374.out (by decide)) (fun _ hk => hk.2) (.slice Ao13 t366.length co13)) (fun _ hk => hk.2) (.slice Ao16 t369.length co16)) (fun _ hk => hk.2) (.int .i64 t372)) (fun _ hk => hk.2) (.int .i64 t373)) (fun _ hk => hk.1.2)⟩
              have n3_ : Aside0 (Kd.R k70 70 ((((w12.setCell ⟨gb374, 0, none⟩ (.slice Ao13 t366.length co13)).setCell ⟨gb374, 1, none⟩ (.slice Ao16 t369.length co16)).setCell ⟨gb374, 2, none⟩ (.int .i64 t372)).setCell ⟨gb374, 3, none⟩ (.int .i64 t373)) w.heap.size (fun k_ => some k_ ≠ (.slice Ao10 t358.length co10 : Value).ownBlock) (.slice Ao16 t369.length co16) t369) := ⟨by (with_reducible repeat (first | apply Kd.zI | apply Kd.zH | apply Kd.zD)); exact Kd.qS (Kd.R_far (p := ⟨gb374, 3, none⟩) (Kd.R_far (p := ⟨gb374, 2, none⟩) (Kd.R_far (p := ⟨gb374, 1, none⟩) (Kd.R_far (p := ⟨gb374, 0, none⟩) (Kd.qW HO371.out BK374.out (by decide)) (fun _ hk => hk.2) (.slice Ao13 t366.length co13)) (fun _ hk => hk.2) (.slice Ao16 t369.length co16)) (fun _ hk => hk.2) (.int .i64 t372)) (fun _ hk => hk.2) (.int .i64 t373)) (fun _ hk => hk.1.2)⟩
              have n4_ : Aside0 (((((w12.setCell ⟨gb374, 0, none⟩ (.slice Ao13 t366.length co13)).setCell ⟨gb374, 1, none⟩ (.slice Ao16 t369.length co16)).setCell ⟨gb374, 2, none⟩ (.int .i64 t372)).setCell ⟨gb374, 3, none⟩ (.int .i64 t373)).heap[gb365]? = some (.cells #[.slice Ao8 t355.length co8, .slice Ao10 t358.length co10, .int .i64 t361, .int .i64 t362] 26 (0, 0))) := ⟨by (with_reducible repeat (first | refine qH ?_ _ | refine qI ?_ | refine qG ?_ _)); refine qR ?_ NB365_374.out _; (with_reducible repeat (first | refine qH ?_ _ | refine qI ?_ | refine qG ?_ _)); refine qR ?_ NB365_374.out _; (with_reducible repeat (first | refine qH ?_ _ | refine qI ?_ | refine qG ?_ _)); refine qR ?_ NB365_374.out _; (with_reducible repeat (first | refine qH ?_ _ | refine qI ?_ | refine qG ?_ _)); refine qR ?_ NB365_374.out _; (with_reducible repeat (first | refine qH ?_ _ | refine qI ?_ | refine qG ?_ _)); exact BK365.out⟩
              have n5_ : Aside0 (((((w12.setCell ⟨gb374, 0, none⟩ (.slice Ao13 t366.length co13)).setCell ⟨gb374, 1, none⟩ (.slice Ao16 t369.length co16)).setCell ⟨gb374, 2, none⟩ (.int .i64 t372)).setCell ⟨gb374, 3, none⟩ (.int .i64 t373)).heap[gb374]? = some (.cells #[.slice Ao13 t366.length co13, .slice Ao16 t369.length co16, .int .i64 t372, .int .i64 t373] 26 (0, 0))) := ⟨by (with_reducible repeat (first | refine qH ?_ _ | refine qI ?_ | refine qG ?_ _)); refine qO (cs := #[.slice Ao13 t366.length co13, .slice Ao16 t369.length co16, .int .i64 t372, .int .i64 0]) ?_ 3 _ rfl; (with_reducible repeat (first | refine qH ?_ _ | refine qI ?_ | refine qG ?_ _)); refine qO (cs := #[.slice Ao13 t366.length co13, .slice Ao16 t369.length co16, .int .i64 0, .int .i64 0]) ?_ 2 _ rfl; (with_reducible repeat (first | refine qH ?_ _ | refine qI ?_ | refine qG ?_ _)); refine qO (cs := #[.slice Ao13 t366.length co13, .slice none 0 0, .int .i64 0, .int .i64 0]) ?_ 1 _ rfl; (with_reducible repeat (first | refine qH ?_ _ | refine qI ?_ | refine qG ?_ _)); refine qO (cs := #[.slice none 0 0, .slice none 0 0, .int .i64 0, .int .i64 0]) ?_ 0 _ rfl; (with_reducible repeat (first | refine qH ?_ _ | refine qI ?_ | refine qG ?_ _)); exact BK374.out⟩
              have n6_ : Aside0 (Below w.heap.size w ((((w12.setCell ⟨gb374, 0, none⟩ (.slice Ao13 t366.length co13)).setCell ⟨gb374, 1, none⟩ (.slice Ao16 t369.length co16)).setCell ⟨gb374, 2, none⟩ (.int .i64 t372)).setCell ⟨gb374, 3, none⟩ (.int .i64 t373))) := ⟨by repeat (first | (with_reducible first | exact HB.out | apply qF | apply qB | apply qE | refine qD ?_ GE365.out | refine qD ?_ GE374.out) | exact HB.out)⟩
              (try clear HO357)
              (try clear HO360)
              (try clear HO368)
              (try clear HO371)
              (try clear BK365)
              (try clear BK374)
              (try clear HB)
              generalize ((((w12.setCell ⟨gb374, 0, none⟩ (.slice Ao13 t366.length co13)).setCell ⟨gb374, 1, none⟩ (.slice Ao16 t369.length co16)).setCell ⟨gb374, 2, none⟩ (.int .i64 t372)).setCell ⟨gb374, 3, none⟩ (.int .i64 t373)) = w38 at n0_ n1_ n2_ n3_ n4_ n5_ n6_ ⊢
              have HO357 := n0_
              have HO360 := n1_
              have HO368 := n2_
              have HO371 := n3_
              have BK365 := n4_
              have BK374 := n5_
              have HB := n6_
              clear n0_ n1_ n2_ n3_ n4_ n5_ n6_
              have n0_ := Aside0.mk (Kd.zW HO357.out)
              have n1_ := Aside0.mk (Kd.zD HO360.out)
              have n2_ := Aside0.mk (Kd.zD HO368.out)
              have n3_ := Aside0.mk (Kd.zD HO371.out)
              have n4_ := Aside0.mk (qI BK365.out)
              have n5_ := Aside0.mk (qI BK374.out)
              have n6_ := Aside0.mk (qE HB.out)
              clear HO357
              clear HO360
              clear HO368
              clear HO371
              clear BK365
              clear BK374
              clear HB
              have HO357 := n0_
              have HO360 := n1_
              have HO368 := n2_
              have HO371 := n3_
              have BK365 := n4_
              have BK374 := n5_
              have HB := n6_
              clear n0_ n1_ n2_ n3_ n4_ n5_ n6_
              refine start_ (n := 26) (S := fun w' => w'.cell? ⟨gb374, 0, none⟩ = some (.slice Ao13 t366.length co13) ∧ w'.cell? ⟨gb374, 1, none⟩ = some (.slice Ao16 t369.length co16) ∧ w'.cell? ⟨gb374, 2, none⟩ = some (.int .i64 t372) ∧ w'.cell? ⟨gb374, 3, none⟩ = some (.int .i64 t373) ∧ w'.cell? ⟨gb365, 0, none⟩ = some (.slice Ao8 t355.length co8) ∧ w'.cell? ⟨gb365, 1, none⟩ = some (.slice Ao10 t358.length co10) ∧ w'.cell? ⟨gb365, 2, none⟩ = some (.int .i64 t361) ∧ w'.cell? ⟨gb365, 3, none⟩ = some (.int .i64 t362)) (ds := []) #[false, false, false, false, false, false, false, false, false, false, false, false, false, false, false, false, false, false, false, false, false, false, false, false, false, false] (by kernel_rfl) rfl rfl ⟨(qA BK374.out 0).trans rfl, (qA BK374.out 1).trans rfl, (qA BK374.out 2).trans rfl, (qA BK374.out 3).trans rfl, (qA BK365.out 0).trans rfl, (qA BK365.out 1).trans rfl, (qA BK365.out 2).trans rfl, (qA BK365.out 3).trans rfl⟩ (fun hHeld => ?_); refine xH laws_FnDiskLeft.tab5 laws_FnDiskLeft.bits5 (fun HT_ HW_ => ?_)
              generalize w38.drew = w39 at HO357 HO360 HO368 HO371 BK365 BK374 HB hHeld ⊢
              refine pure_ (i := 2) (N := some 26) (v := ?_) (a' := ?_) #[false, false, true, false, false, false, false, false, false, false, false, false, false, false, false, false, false, false, false, false, false, false, false, false, false, false] rfl rfl (zB HT_.out (by kernel_rfl)) (fun _ _ _ h => h) (Or.inl ⟨by rfl, ?_⟩) ?_ ?_
              rotate_left
              · intro w'
                go_simp
                with_reducible rfl
              rotate_left
              · simp only [Act.put, List.setIfInBounds_toArray, List.set_cons_zero, List.set_cons_succ, i64_w, i32_w]
                rfl
              refine pure_ (i := 3) (N := some 27) (v := ?_) (a' := ?_) #[false, false, true, true, false, false, false, false, false, false, false, false, false, false, false, false, false, false, false, false, false, false, false, false, false, false] rfl rfl (zB HT_.out (by kernel_rfl)) (fun _ _ _ h => h) (Or.inl ⟨by rfl, ?_⟩) ?_ ?_
              rotate_left
              · intro w'
                go_simp
                with_reducible rfl
              rotate_left
              · simp only [Act.put, List.setIfInBounds_toArray, List.set_cons_zero, List.set_cons_succ, i64_w, i32_w]
                rfl
              refine take_ (i := 0) (N := some 24) (v := ?_) (a' := ?_) #[true, false, true, true, false, false, false, false, false, false, false, false, false, false, false, false, false, false, false, false, false, false, false, false, false, false] rfl rfl (zQ HT_.out HW_.out (by kernel_rfl)) (fun _ _ _ h => h) (Or.inl ⟨by rfl, ?_⟩) hHeld ?_ ?_
              rotate_left
              · rintro w' ⟨s0, s1, s2, s3, s4, s5, s6, s7⟩
                go_simp
                with_reducible rfl
              rotate_left
              · simp only [Act.put, List.setIfInBounds_toArray, List.set_cons_zero, List.set_cons_succ, i64_w, i32_w]
                rfl
              refine take_ (i := 1) (N := some 25) (v := ?_) (a' := ?_) #[true, true, true, true, false, false, false, false, false, false, false, false, false, false, false, false, false, false, false, false, false, false, false, false, false, false] rfl rfl (zQ HT_.out HW_.out (by kernel_rfl)) (fun _ _ _ h => h) (Or.inl ⟨by rfl, ?_⟩) hHeld ?_ ?_
              rotate_left
              · rintro w' ⟨s0, s1, s2, s3, s4, s5, s6, s7⟩
                go_simp
                with_reducible rfl
              rotate_left
              · simp only [Act.put, List.setIfInBounds_toArray, List.set_cons_zero, List.set_cons_succ, i64_w, i32_w]
                rfl
              refine one_ (i := 4) (N := some 28) #[true, true, true, true, true, false, false, false, false, false, false, false, false, false, false, false, false, false, false, false, false, false, false, false, false, false] rfl rfl (zT HT_.out (by kernel_rfl)) (by decide) (fun K hK => ?_)
              refine goes_ Try.func14 (by kernel_rfl) rfl #[.agg #[.slice Ao8 t355.length co8, .slice Ao10 t358.length co10, .int .i64 t361, .int .i64 t362], .int .i64 t363, .int .i64 t364] (by rfl) rfl rfl (by (try simp only [List.map_toArray, List.map_cons, List.map_nil]); first | done | rfl | (simp only [List.length_drop, List.length_take]; rfl)) ?_
              with_reducible refine (spec_DiskSet.calls k _ _ t355 _ _ t358 t361 t362 t363 t364 t375 t378 t381 t382 _ ?side1 ?side2 ?side3 ?side4 A17.out).mono ?_
              (case side1 => repeat (first | exact (Kd.zN HO357.out).2.2 | (with_reducible refine Kd.qX ?_ _) | (with_reducible refine Kd.qY ?_ _) | (with_reducible refine Kd.zC ?_)))
              (case side2 => exact (Kd.zN HO357.out).2.1)
              (case side3 => repeat (first | exact (Kd.qT HO360.out).2.2 | (with_reducible refine Kd.qX ?_ _) | (with_reducible refine Kd.qY ?_ _) | (with_reducible refine Kd.zC ?_)))
              (case side4 => exact (Kd.qT HO360.out).2.1)
              rintro e w40 ⟨v376, v379, rfl, ho0, ho1, hb⟩
              refine ⟨_, rfl, ?_⟩
              have n0_ := Aside0.mk (Kd.xD (qw_ HO357.out) (Kd.zP ho0) hb)
              have n1_ := Aside0.mk (Kd.zO (rw_ HO360.out) (Kd.zP ho1) hb)
              have n2_ := Aside0.mk (Kd.zO (rw_ HO368.out) (Kd.zP ho0) hb)
              have n3_ := Aside0.mk (Kd.zO (rw_ HO371.out) (Kd.zP ho1) hb)
              have n4_ := Aside0.mk (Kd.zJ (Kd.zR (Kd.zR ho0 (Kd.Q_lt (qw_ HO357.out))) (Kd.R_lt (rw_ HO368.out))) (qK (by repeat (first | (with_reducible first | exact HB.out | apply qF | apply qB | apply qE | refine qD ?_ GE365.out | refine qD ?_ GE374.out) | exact HB.out))))
              have n5_ := Aside0.mk (Kd.zJ (Kd.zR (Kd.zR ho1 (Kd.R_lt (rw_ HO360.out))) (Kd.R_lt (rw_ HO371.out))) (qK (by repeat (first | (with_reducible first | exact HB.out | apply qF | apply qB | apply qE | refine qD ?_ GE365.out | refine qD ?_ GE374.out) | exact HB.out))))
              have n6_ := Aside0.mk (qJ (g := gb365) (o := .cells #[.slice Ao8 t355.length co8, .slice Ao10 t358.length co10, .int .i64 t361, .int .i64 t362] 26 (0, 0)) (bw_ BK365.out) hb)
              have n7_ := Aside0.mk (qJ (g := gb374) (o := .cells #[.slice Ao13 t366.length co13, .slice Ao16 t369.length co16, .int .i64 t372, .int .i64 t373] 26 (0, 0)) (bw_ BK374.out) hb)
              have n8_ := Aside0.mk (qL (by repeat (first | (with_reducible first | exact HB.out | apply qF | apply qB | apply qE | refine qD ?_ GE365.out | refine qD ?_ GE374.out) | exact HB.out)) hb)
              clear HO357
              clear HO360
              clear HO368
              clear HO371
              clear BK365
              clear BK374
              clear HB
              have HO357 := n0_
              have HO360 := n1_
              have HO368 := n2_
              have HO371 := n3_
              have HO377 := n4_
              have HO380 := n5_
              have BK365 := n6_
              have BK374 := n7_
              have HB := n8_
              clear n0_ n1_ n2_ n3_ n4_ n5_ n6_ n7_ n8_
              (try clear hb)
              (try clear hb2)
              (try clear hk)
              (try clear hi)
              (try clear ho0)
              (try clear ho1)
              obtain ⟨Ao41, co41, eo41⟩ := Kd.zE HO377.out
              (first | subst eo41 | (injection eo41 with f1_ f2_ f3_; have f4_ := f1_.symm; have f5_ := f3_.symm; clear f1_ f2_ f3_; subst f4_; subst f5_))
              obtain ⟨Ao42, co42, eo42⟩ := Kd.zE HO380.out
              (first | subst eo42 | (injection eo42 with f1_ f2_ f3_; have f4_ := f1_.symm; have f5_ := f3_.symm; clear f1_ f2_ f3_; subst f4_; subst f5_))
              refine hK.out _ _ ⟨(qA BK374.out 0).trans rfl, (qA BK374.out 1).trans rfl, (qA BK374.out 2).trans rfl, (qA BK374.out 3).trans rfl, (qA BK365.out 0).trans rfl, (qA BK365.out 1).trans rfl, (qA BK365.out 2).trans rfl, (qA BK365.out 3).trans rfl⟩ (fun hHeld => ?_)
              clear hK K
              refine norm_ (a' := ?_) ?_ ?_
              rotate_left
              · show Act.put _ (some 28) _ = _
                simp only [Act.put, List.setIfInBounds_toArray, List.set_cons_zero, List.set_cons_succ, i64_w, i32_w]
                rfl
              refine one_ (i := 5) (N := some 29) #[true, true, true, true, true, true, false, false, false, false, false, false, false, false, false, false, false, false, false, false, false, false, false, false, false, false] rfl rfl (zT HT_.out (by kernel_rfl)) (by decide) (fun K hK => ?_)
              refine goes_ Try.func13 (by kernel_rfl) rfl #[.agg #[.slice Ao13 t366.length co13, .slice Ao16 t369.length co16, .int .i64 t372, .int .i64 t373], .agg #[.slice Ao41 t375.length co41, .slice Ao42 t378.length co42, .int .i64 t381, .int .i64 t382]] (by rfl) rfl rfl (by (try simp only [List.map_toArray, List.map_cons, List.map_nil]); first | done | rfl | (simp only [List.length_drop, List.length_take]; rfl)) ?_
              with_reducible refine (laws_jtDisk.calls k _ _ t366 _ _ t369 t372 t373 _ _ t375 _ _ t378 t381 t382 true _ ?side1 ?side2 ?side3 ?side4 ?side5 ?side6 ?side7 ?side8 A18.out).mono ?_
              (case side1 => repeat (first | exact (Kd.qT HO368.out).2.2 | (with_reducible refine Kd.qX ?_ _) | (with_reducible refine Kd.qY ?_ _) | (with_reducible refine Kd.zC ?_)))
              (case side2 => exact (Kd.qT HO368.out).2.1)
              (case side3 => repeat (first | exact (Kd.qT HO371.out).2.2 | (with_reducible refine Kd.qX ?_ _) | (with_reducible refine Kd.qY ?_ _) | (with_reducible refine Kd.zC ?_)))
              (case side4 => exact (Kd.qT HO371.out).2.1)
              (case side5 => repeat (first | exact (Kd.qT HO377.out).2.2 | (with_reducible refine Kd.qX ?_ _) | (with_reducible refine Kd.qY ?_ _) | (with_reducible refine Kd.zC ?_)))
              (case side6 => exact (Kd.qT HO377.out).2.1)
              (case side7 => repeat (first | exact (Kd.qT HO380.out).2.2 | (with_reducible refine Kd.qX ?_ _) | (with_reducible refine Kd.qY ?_ _) | (with_reducible refine Kd.zC ?_)))
              (case side8 => exact (Kd.qT HO380.out).2.1)
              rintro e w43 ⟨rfl, hb⟩
              refine ⟨_, rfl, ?_⟩
              have n0_ := Aside0.mk (Kd.zU (qw_ HO357.out) hb)
              have n1_ := Aside0.mk (Kd.qZ (rw_ HO360.out) hb)
              have n2_ := Aside0.mk (Kd.qZ (rw_ HO368.out) hb)
              have n3_ := Aside0.mk (Kd.qZ (rw_ HO371.out) hb)
              have n4_ := Aside0.mk (Kd.qZ (rw_ HO377.out) hb)
              have n5_ := Aside0.mk (Kd.qZ (rw_ HO380.out) hb)
              have n6_ := Aside0.mk (qJ (g := gb365) (o := .cells #[.slice Ao8 t355.length co8, .slice Ao10 t358.length co10, .int .i64 t361, .int .i64 t362] 26 (0, 0)) (bw_ BK365.out) hb)
              have n7_ := Aside0.mk (qJ (g := gb374) (o := .cells #[.slice Ao13 t366.length co13, .slice Ao16 t369.length co16, .int .i64 t372, .int .i64 t373] 26 (0, 0)) (bw_ BK374.out) hb)
              have n8_ := Aside0.mk (qL (by repeat (first | (with_reducible first | exact HB.out | apply qF | apply qB | apply qE | refine qD ?_ GE365.out | refine qD ?_ GE374.out) | exact HB.out)) hb)
              clear HO357
              clear HO360
              clear HO368
              clear HO371
              clear HO377
              clear HO380
              clear BK365
              clear BK374
              clear HB
              have HO357 := n0_
              have HO360 := n1_
              have HO368 := n2_
              have HO371 := n3_
              have HO377 := n4_
              have HO380 := n5_
              have BK365 := n6_
              have BK374 := n7_
              have HB := n8_
              clear n0_ n1_ n2_ n3_ n4_ n5_ n6_ n7_ n8_
              (try clear hb)
              (try clear hb2)
              (try clear hk)
              (try clear hi)
              refine hK.out _ _ ⟨(qA BK374.out 0).trans rfl, (qA BK374.out 1).trans rfl, (qA BK374.out 2).trans rfl, (qA BK374.out 3).trans rfl, (qA BK365.out 0).trans rfl, (qA BK365.out 1).trans rfl, (qA BK365.out 2).trans rfl, (qA BK365.out 3).trans rfl⟩ (fun hHeld => ?_)
              clear hK K
              refine norm_ (a' := ?_) ?_ ?_
              rotate_left
              · show Act.put _ (some 29) _ = _
                simp only [Act.put, List.setIfInBounds_toArray, List.set_cons_zero, List.set_cons_succ, i64_w, i32_w]
                rfl
              refine pure_ (i := 6) (N := some 30) (v := ?_) (a' := ?_) #[true, true, true, true, true, true, true, false, false, false, false, false, false, false, false, false, false, false, false, false, false, false, false, false, false, false] rfl rfl (zB HT_.out (by kernel_rfl)) (fun _ _ _ h => h) (Or.inl ⟨by rfl, ?_⟩) ?_ ?_
              rotate_left
              · intro w'
                go_simp
                with_reducible rfl
              rotate_left
              · simp only [Act.put, List.setIfInBounds_toArray, List.set_cons_zero, List.set_cons_succ, i64_w, i32_w]
                rfl
              refine pure_ (i := 7) (N := some 31) (v := ?_) (a' := ?_) #[true, true, true, true, true, true, true, true, false, false, false, false, false, false, false, false, false, false, false, false, false, false, false, false, false, false] rfl rfl (zB HT_.out (by kernel_rfl)) (fun _ _ _ h => h) (Or.inl ⟨by rfl, ?_⟩) ?_ ?_
              rotate_left
              · intro w'
                go_simp
                with_reducible rfl
              rotate_left
              · simp only [Act.put, List.setIfInBounds_toArray, List.set_cons_zero, List.set_cons_succ, i64_w, i32_w]
                rfl
              refine take_ (i := 8) (N := some 32) (v := ?_) (a' := ?_) #[true, true, true, true, true, true, true, true, true, false, false, false, false, false, false, false, false, false, false, false, false, false, false, false, false, false] rfl rfl (zQ HT_.out HW_.out (by kernel_rfl)) (fun _ _ _ h => h) (Or.inl ⟨by rfl, ?_⟩) hHeld ?_ ?_
              rotate_left
              · rintro w' ⟨s0, s1, s2, s3, s4, s5, s6, s7⟩
                go_simp
                with_reducible rfl
              rotate_left
              · simp only [Act.put, List.setIfInBounds_toArray, List.set_cons_zero, List.set_cons_succ, i64_w, i32_w]
                rfl
              refine one_ (i := 9) (N := some 33) #[true, true, true, true, true, true, true, true, true, true, false, false, false, false, false, false, false, false, false, false, false, false, false, false, false, false] rfl rfl (zT HT_.out (by kernel_rfl)) (by decide) (fun K hK => ?_)
              refine goes_ Try.func15 (by kernel_rfl) rfl #[.agg #[.slice Ao8 t355.length co8, .slice Ao10 t358.length co10, .int .i64 t361, .int .i64 t362]] (by rfl) rfl rfl (by (try simp only [List.map_toArray, List.map_cons, List.map_nil]); first | done | rfl | (simp only [List.length_drop, List.length_take]; rfl)) ?_
              with_reducible refine (spec_DiskOk.calls k _ _ t355 _ _ t358 t361 t362 true _ ?side1 ?side2 ?side3 ?side4 A20.out).mono ?_
              (case side1 => repeat (first | exact (Kd.zN HO357.out).2.2 | (with_reducible refine Kd.qX ?_ _) | (with_reducible refine Kd.qY ?_ _) | (with_reducible refine Kd.zC ?_)))
              (case side2 => exact (Kd.zN HO357.out).2.1)
              (case side3 => repeat (first | exact (Kd.qT HO360.out).2.2 | (with_reducible refine Kd.qX ?_ _) | (with_reducible refine Kd.qY ?_ _) | (with_reducible refine Kd.zC ?_)))
              (case side4 => exact (Kd.qT HO360.out).2.1)
              rintro e w44 ⟨rfl, hb⟩
              refine ⟨_, rfl, ?_⟩
              have n0_ := Aside0.mk (Kd.zU (qw_ HO357.out) hb)
              have n1_ := Aside0.mk (Kd.qZ (rw_ HO360.out) hb)
              have n2_ := Aside0.mk (Kd.qZ (rw_ HO368.out) hb)
              have n3_ := Aside0.mk (Kd.qZ (rw_ HO371.out) hb)
              have n4_ := Aside0.mk (Kd.qZ (rw_ HO377.out) hb)
              have n5_ := Aside0.mk (Kd.qZ (rw_ HO380.out) hb)
              have n6_ := Aside0.mk (qJ (g := gb365) (o := .cells #[.slice Ao8 t355.length co8, .slice Ao10 t358.length co10, .int .i64 t361, .int .i64 t362] 26 (0, 0)) (bw_ BK365.out) hb)
              have n7_ := Aside0.mk (qJ (g := gb374) (o := .cells #[.slice Ao13 t366.length co13, .slice Ao16 t369.length co16, .int .i64 t372, .int .i64 t373] 26 (0, 0)) (bw_ BK374.out) hb)
              have n8_ := Aside0.mk (qL (by repeat (first | (with_reducible first | exact HB.out | apply qF | apply qB | apply qE | refine qD ?_ GE365.out | refine qD ?_ GE374.out) | exact HB.out)) hb)
              clear HO357
              clear HO360
              clear HO368
              clear HO371
              clear HO377
              clear HO380
              clear BK365
              clear BK374
              clear HB
              have HO357 := n0_
              have HO360 := n1_
              have HO368 := n2_
              have HO371 := n3_
              have HO377 := n4_
              have HO380 := n5_
              have BK365 := n6_
              have BK374 := n7_
              have HB := n8_
              clear n0_ n1_ n2_ n3_ n4_ n5_ n6_ n7_ n8_
              (try clear hb)
              (try clear hb2)
              (try clear hk)
              (try clear hi)
              refine hK.out _ _ ⟨(qA BK374.out 0).trans rfl, (qA BK374.out 1).trans rfl, (qA BK374.out 2).trans rfl, (qA BK374.out 3).trans rfl, (qA BK365.out 0).trans rfl, (qA BK365.out 1).trans rfl, (qA BK365.out 2).trans rfl, (qA BK365.out 3).trans rfl⟩ (fun hHeld => ?_)
              clear hK K
              refine norm_ (a' := ?_) ?_ ?_
              rotate_left
              · show Act.put _ (some 33) _ = _
                simp only [Act.put, List.setIfInBounds_toArray, List.set_cons_zero, List.set_cons_succ, i64_w, i32_w]
                rfl
              refine pure_ (i := 10) (N := some 34) (v := ?_) (a' := ?_) #[true, true, true, true, true, true, true, true, true, true, true, false, false, false, false, false, false, false, false, false, false, false, false, false, false, false] rfl rfl (zB HT_.out (by kernel_rfl)) (fun _ _ _ h => h) (Or.inl ⟨by rfl, ?_⟩) ?_ ?_
              rotate_left
              · intro w'
                go_simp
                with_reducible rfl
              rotate_left
              · simp only [Act.put, List.setIfInBounds_toArray, List.set_cons_zero, List.set_cons_succ, i64_w, i32_w]
                rfl
              refine pure_ (i := 11) (N := some 35) (v := ?_) (a' := ?_) #[true, true, true, true, true, true, true, true, true, true, true, true, false, false, false, false, false, false, false, false, false, false, false, false, false, false] rfl rfl (zB HT_.out (by kernel_rfl)) (fun _ _ _ h => h) (Or.inl ⟨by rfl, ?_⟩) ?_ ?_
              rotate_left
              · intro w'
                go_simp
                with_reducible rfl
              rotate_left
              · simp only [Act.put, List.setIfInBounds_toArray, List.set_cons_zero, List.set_cons_succ, i64_w, i32_w]
                rfl
              refine pure_ (i := 12) (N := some 36) (v := ?_) (a' := ?_) #[true, true, true, true, true, true, true, true, true, true, true, true, true, false, false, false, false, false, false, false, false, false, false, false, false, false] rfl rfl (zB HT_.out (by kernel_rfl)) (fun _ _ _ h => h) (Or.inl ⟨by rfl, ?_⟩) ?_ ?_
              rotate_left
              · intro w'
                go_simp
                with_reducible rfl
              rotate_left
              · simp only [Act.put, List.setIfInBounds_toArray, List.set_cons_zero, List.set_cons_succ, i64_w, i32_w]
                rfl
              refine pure_ (i := 13) (N := some 37) (v := ?_) (a' := ?_) #[true, true, true, true, true, true, true, true, true, true, true, true, true, true, false, false, false, false, false, false, false, false, false, false, false, false] rfl rfl (zB HT_.out (by kernel_rfl)) (fun _ _ _ h => h) (Or.inl ⟨by rfl, ?_⟩) ?_ ?_
              rotate_left
              · intro w'
                go_simp
                with_reducible rfl
              rotate_left
              · simp only [Act.put, List.setIfInBounds_toArray, List.set_cons_zero, List.set_cons_succ, i64_w, i32_w]
                rfl
              refine pure_ (i := 14) (N := some 38) (v := ?_) (a' := ?_) #[true, true, true, true, true, true, true, true, true, true, true, true, true, true, true, false, false, false, false, false, false, false, false, false, false, false] rfl rfl (zB HT_.out (by kernel_rfl)) (fun _ _ _ h => h) (Or.inl ⟨by rfl, ?_⟩) ?_ ?_
              rotate_left
              · intro w'
                go_simp
                with_reducible rfl
              rotate_left
              · simp only [Act.put, List.setIfInBounds_toArray, List.set_cons_zero, List.set_cons_succ, i64_w, i32_w]
                rfl
              refine pure_ (i := 15) (N := some 39) (v := ?_) (a' := ?_) #[true, true, true, true, true, true, true, true, true, true, true, true, true, true, true, true, false, false, false, false, false, false, false, false, false, false] rfl rfl (zB HT_.out (by kernel_rfl)) (fun _ _ _ h => h) (Or.inl ⟨by rfl, ?_⟩) ?_ ?_
              rotate_left
              · intro w'
                go_simp
                with_reducible rfl
              rotate_left
              · simp only [Act.put, List.setIfInBounds_toArray, List.set_cons_zero, List.set_cons_succ, i64_w, i32_w]
                rfl
              refine pure_ (i := 16) (N := some 40) (v := ?_) (a' := ?_) #[true, true, true, true, true, true, true, true, true, true, true, true, true, true, true, true, true, false, false, false, false, false, false, false, false, false] rfl rfl (zB HT_.out (by kernel_rfl)) (fun _ _ _ h => h) (Or.inl ⟨by rfl, ?_⟩) ?_ ?_
              rotate_left
              · intro w'
                go_simp
                with_reducible rfl
              rotate_left
              · simp only [Act.put, List.setIfInBounds_toArray, List.set_cons_zero, List.set_cons_succ, i64_w, i32_w]
                rfl
              refine pure_ (i := 17) (N := some 41) (v := ?_) (a' := ?_) #[true, true, true, true, true, true, true, true, true, true, true, true, true, true, true, true, true, true, false, false, false, false, false, false, false, false] rfl rfl (zB HT_.out (by kernel_rfl)) (fun _ _ _ h => h) (Or.inl ⟨by rfl, ?_⟩) ?_ ?_
              rotate_left
              · intro w'
                go_simp
                with_reducible rfl
              rotate_left
              · simp only [Act.put, List.setIfInBounds_toArray, List.set_cons_zero, List.set_cons_succ, i64_w, i32_w]
                rfl
              refine pure_ (i := 18) (N := some 42) (v := ?_) (a' := ?_) #[true, true, true, true, true, true, true, true, true, true, true, true, true, true, true, true, true, true, true, false, false, false, false, false, false, false] rfl rfl (zB HT_.out (by kernel_rfl)) (fun _ _ _ h => h) (Or.inl ⟨by rfl, ?_⟩) ?_ ?_
              rotate_left
              · intro w'
                go_simp
                with_reducible rfl
              rotate_left
              · simp only [Act.put, List.setIfInBounds_toArray, List.set_cons_zero, List.set_cons_succ, i64_w, i32_w]
                rfl
              refine pure_ (i := 19) (N := some 43) (v := ?_) (a' := ?_) #[true, true, true, true, true, true, true, true, true, true, true, true, true, true, true, true, true, true, true, true, false, false, false, false, false, false] rfl rfl (zB HT_.out (by kernel_rfl)) (fun _ _ _ h => h) (Or.inl ⟨by rfl, ?_⟩) ?_ ?_
              rotate_left
              · intro w'
                go_simp
                with_reducible rfl
              rotate_left
              · simp only [Act.put, List.setIfInBounds_toArray, List.set_cons_zero, List.set_cons_succ, i64_w, i32_w]
                rfl
              refine pure_ (i := 20) (N := some 44) (v := ?_) (a' := ?_) #[true, true, true, true, true, true, true, true, true, true, true, true, true, true, true, true, true, true, true, true, true, false, false, false, false, false] rfl rfl (zB HT_.out (by kernel_rfl)) (fun _ _ _ h => h) (Or.inl ⟨by rfl, ?_⟩) ?_ ?_
              rotate_left
              · intro w'
                go_simp
                with_reducible rfl
              rotate_left
              · simp only [Act.put, List.setIfInBounds_toArray, List.set_cons_zero, List.set_cons_succ, i64_w, i32_w]
                rfl
              refine pure_ (i := 21) (N := some 45) (v := ?_) (a' := ?_) #[true, true, true, true, true, true, true, true, true, true, true, true, true, true, true, true, true, true, true, true, true, true, false, false, false, false] rfl rfl (zB HT_.out (by kernel_rfl)) (fun _ _ _ h => h) (Or.inl ⟨by rfl, ?_⟩) ?_ ?_
              rotate_left
              · intro w'
                go_simp
                with_reducible rfl
              rotate_left
              · simp only [Act.put, List.setIfInBounds_toArray, List.set_cons_zero, List.set_cons_succ, i64_w, i32_w]
                rfl
              refine take_ (i := 22) (N := some 46) (v := ?_) (a' := ?_) #[true, true, true, true, true, true, true, true, true, true, true, true, true, true, true, true, true, true, true, true, true, true, true, false, false, false] rfl rfl (zQ HT_.out HW_.out (by kernel_rfl)) (fun _ _ _ h => h) (Or.inl ⟨by rfl, ?_⟩) hHeld ?_ ?_
              rotate_left
              · rintro w' ⟨s0, s1, s2, s3, s4, s5, s6, s7⟩
                go_simp
                with_reducible rfl
              rotate_left
              · simp only [Act.put, List.setIfInBounds_toArray, List.set_cons_zero, List.set_cons_succ, i64_w, i32_w]
                rfl
              refine pure_ (i := 23) (N := some 47) (v := ?_) (a' := ?_) #[true, true, true, true, true, true, true, true, true, true, true, true, true, true, true, true, true, true, true, true, true, true, true, true, false, false] rfl rfl (zB HT_.out (by kernel_rfl)) (fun _ _ _ h => h) (Or.inl ⟨by rfl, ?_⟩) ?_ ?_
              rotate_left
              · intro w'
                go_simp
                with_reducible rfl
              rotate_left
              · simp only [Act.put, List.setIfInBounds_toArray, List.set_cons_zero, List.set_cons_succ, i64_w, i32_w]
                rfl
              refine pure_ (i := 24) (N := some 48) (v := ?_) (a' := ?_) #[true, true, true, true, true, true, true, true, true, true, true, true, true, true, true, true, true, true, true, true, true, true, true, true, true, false] rfl rfl (zB HT_.out (by kernel_rfl)) (fun _ _ _ h => h) (Or.inl ⟨by rfl, ?_⟩) ?_ ?_
              rotate_left
              · intro w'
                go_simp
                with_reducible rfl
              rotate_left
              · simp only [Act.put, List.setIfInBounds_toArray, List.set_cons_zero, List.set_cons_succ, i64_w, i32_w]
                rfl
              refine pure_ (i := 25) (N := some 49) (v := ?_) (a' := ?_) #[true, true, true, true, true, true, true, true, true, true, true, true, true, true, true, true, true, true, true, true, true, true, true, true, true, true] rfl rfl (zB HT_.out (by kernel_rfl)) (fun _ _ _ h => h) (Or.inl ⟨by rfl, ?_⟩) ?_ ?_
              rotate_left
              · intro w'
                go_simp
                with_reducible rfl
              rotate_left
              · simp only [Act.put, List.setIfInBounds_toArray, List.set_cons_zero, List.set_cons_succ, i64_w, i32_w]
                rfl
              refine done_ (done_of HT_.out (by kernel_rfl)) ?_
              try go_wp2
              go_meet
              case rel => exact ⟨_, (decide ((t358.length : Int) > 50)), (by first | rfl | (simp; done) | (simp [*]; done)), H', ⟨by first | omega | exact Nat.le_refl _⟩, ⟨by (with_reducible repeat (first | apply Kd.xA | apply Kd.xB | apply Kd.zW)); exact Kd.zX HO357.out (fun _ hk => hk.1)⟩, ⟨by (with_reducible repeat (first | apply Kd.zI | apply Kd.zH | apply Kd.zD)); exact Kd.qS HO360.out (fun _ hk => hk.1)⟩, ⟨Kd.Q_of_R (rw_ (Kd.qS HO368.out (fun _ hk => hk.1)))⟩, ⟨by (with_reducible repeat (first | apply Kd.zI | apply Kd.zH | apply Kd.zD)); exact Kd.qS HO371.out (fun _ hk => hk.1)⟩, ⟨by (with_reducible repeat (first | refine qH ?_ _ | refine qI ?_ | refine qG ?_ _)); exact BK365.out⟩, ⟨by (with_reducible repeat (first | refine qH ?_ _ | refine qI ?_ | refine qG ?_ _)); exact BK374.out⟩, ⟨by repeat (first | (with_reducible first | exact HB.out | apply qF | apply qB | apply qE | refine qD ?_ GE365.out | refine qD ?_ GE374.out) | exact HB.out)⟩⟩
        · replace c21 := Bool.eq_false_iff.mpr c21
          subst c21
          have H1 : (laws_FnDiskLeft.j0 k t363 t364 true t355 t358 t361 t362 t366 t369 t372 t373) = some true := by rw [if_neg (show ¬ (false = true) by decide)] at H; exact H
          clear H
          have H := H1
          clear H1
          have H' := Aside0.mk H
          clear H
          try go_wp2
          have n0_ : Aside0 (Kd.Q Kd.string 9 ((((w12.setCell ⟨gb374, 0, none⟩ (.slice Ao13 t366.length co13)).setCell ⟨gb374, 1, none⟩ (.slice Ao16 t369.length co16)).setCell ⟨gb374, 2, none⟩ (.int .i64 t372)).setCell ⟨gb374, 3, none⟩ (.int .i64 t373)) w.heap.size (fun k_ => some k_ ≠ (.slice Ao13 t366.length co13 : Value).ownBlock) (.slice Ao8 t355.length co8) t355) := ⟨by (with_reducible repeat (first | apply Kd.xA | apply Kd.xB | apply Kd.zW)); exact Kd.zX (Kd.Q_far (p := ⟨gb374, 3, none⟩) (Kd.Q_far (p := ⟨gb374, 2, none⟩) (Kd.Q_far (p := ⟨gb374, 1, none⟩) (Kd.Q_far (p := ⟨gb374, 0, none⟩) (Kd.xC HO357.out BK374.out (by decide)) (fun _ hk => hk.2) (.slice Ao13 t366.length co13)) (fun _ hk => hk.2) (.slice Ao16 t369.length co16)) (fun _ hk => hk.2) (.int .i64 t372)) (fun _ hk => hk.2) (.int .i64 t373)) (fun _ hk => hk.1.2)⟩
          have n1_ : Aside0 (Kd.R k70 70 ((((w12.setCell ⟨gb374, 0, none⟩ (.slice Ao13 t366.length co13)).setCell ⟨gb374, 1, none⟩ (.slice Ao16 t369.length co16)).setCell ⟨gb374, 2, none⟩ (.int .i64 t372)).setCell ⟨gb374, 3, none⟩ (.int .i64 t373)) w.heap.size (fun k_ => some k_ ≠ (.slice Ao16 t369.length co16 : Value).ownBlock) (.slice Ao10 t358.length co10) t358) := ⟨by (with_reducible repeat (first | apply Kd.zI | apply Kd.zH | apply Kd.zD)); exact Kd.qS (Kd.R_far (p := ⟨gb374, 3, none⟩) (Kd.R_far (p := ⟨gb374, 2, none⟩) (Kd.R_far (p := ⟨gb374, 1, none⟩) (Kd.R_far (p := ⟨gb374, 0, none⟩) (Kd.qW HO360.out BK374.out (by decide)) (fun _ hk => hk.2) (.slice Ao13 t366.length co13)) (fun _ hk => hk.2) (.slice Ao16 t369.length co16)) (fun _ hk => hk.2) (.int .i64 t372)) (fun _ hk => hk.2) (.int .i64 t373)) (fun _ hk => hk.1.2)⟩
          have n2_ : Aside0 (Kd.R Kd.string 9 ((((w12.setCell ⟨gb374, 0, none⟩ (.slice Ao13 t366.length co13)).setCell ⟨gb374, 1, none⟩ (.slice Ao16 t369.length co16)).setCell ⟨gb374, 2, none⟩ (.int .i64 t372)).setCell ⟨gb374, 3, none⟩ (.int .i64 t373)) w.heap.size (fun k_ => some k_ ≠ (.slice Ao8 t355.length co8 : Value).ownBlock) (.slice Ao13 t366.length co13) t366) := ⟨by (with_reducible repeat (first | apply Kd.zI | apply Kd.zH | apply Kd.zD)); exact Kd.qS (Kd.R_far (p := ⟨gb374, 3, none⟩) (Kd.R_far (p := ⟨gb374, 2, none⟩) (Kd.R_far (p := ⟨gb374, 1, none⟩) (Kd.R_far (p := ⟨gb374, 0, none⟩) (Kd.qW HO368.out BK374.out (by decide)) (fun _ hk => hk.2) (.slice Ao13 t366.length co13)) (fun _ hk => hk.2) (.slice Ao16 t369.length co16)) (fun _ hk => hk.2) (.int .i64 t372)) (fun _ hk => hk.2) (.int .i64 t373)) (fun _ hk => hk.1.2)⟩
          have n3_ : Aside0 (Kd.R k70 70 ((((w12.setCell ⟨gb374, 0, none⟩ (.slice Ao13 t366.length co13)).setCell ⟨gb374, 1, none⟩ (.slice Ao16 t369.length co16)).setCell ⟨gb374, 2, none⟩ (.int .i64 t372)).setCell ⟨gb374, 3, none⟩ (.int .i64 t373)) w.heap.size (fun k_ => some k_ ≠ (.slice Ao10 t358.length co10 : Value).ownBlock) (.slice Ao16 t369.length co16) t369) := ⟨by (with_reducible repeat (first | apply Kd.zI | apply Kd.zH | apply Kd.zD)); exact Kd.qS (Kd.R_far (p := ⟨gb374, 3, none⟩) (Kd.R_far (p := ⟨gb374, 2, none⟩) (Kd.R_far (p := ⟨gb374, 1, none⟩) (Kd.R_far (p := ⟨gb374, 0, none⟩) (Kd.qW HO371.out BK374.out (by decide)) (fun _ hk => hk.2) (.slice Ao13 t366.length co13)) (fun _ hk => hk.2) (.slice Ao16 t369.length co16)) (fun _ hk => hk.2) (.int .i64 t372)) (fun _ hk => hk.2) (.int .i64 t373)) (fun _ hk => hk.1.2)⟩
          have n4_ : Aside0 (((((w12.setCell ⟨gb374, 0, none⟩ (.slice Ao13 t366.length co13)).setCell ⟨gb374, 1, none⟩ (.slice Ao16 t369.length co16)).setCell ⟨gb374, 2, none⟩ (.int .i64 t372)).setCell ⟨gb374, 3, none⟩ (.int .i64 t373)).heap[gb365]? = some (.cells #[.slice Ao8 t355.length co8, .slice Ao10 t358.length co10, .int .i64 t361, .int .i64 t362] 26 (0, 0))) := ⟨by (with_reducible repeat (first | refine qH ?_ _ | refine qI ?_ | refine qG ?_ _)); refine qR ?_ NB365_374.out _; (with_reducible repeat (first | refine qH ?_ _ | refine qI ?_ | refine qG ?_ _)); refine qR ?_ NB365_374.out _; (with_reducible repeat (first | refine qH ?_ _ | refine qI ?_ | refine qG ?_ _)); refine qR ?_ NB365_374.out _; (with_reducible repeat (first | refine qH ?_ _ | refine qI ?_ | refine qG ?_ _)); refine qR ?_ NB365_374.out _; (with_reducible repeat (first | refine qH ?_ _ | refine qI ?_ | refine qG ?_ _)); exact BK365.out⟩
          have n5_ : Aside0 (((((w12.setCell ⟨gb374, 0, none⟩ (.slice Ao13 t366.length co13)).setCell ⟨gb374, 1, none⟩ (.slice Ao16 t369.length co16)).setCell ⟨gb374, 2, none⟩ (.int .i64 t372)).setCell ⟨gb374, 3, none⟩ (.int .i64 t373)).heap[gb374]? = some (.cells #[.slice Ao13 t366.length co13, .slice Ao16 t369.length co16, .int .i64 t372, .int .i64 t373] 26 (0, 0))) := ⟨by (with_reducible repeat (first | refine qH ?_ _ | refine qI ?_ | refine qG ?_ _)); refine qO (cs := #[.slice Ao13 t366.length co13, .slice Ao16 t369.length co16, .int .i64 t372, .int .i64 0]) ?_ 3 _ rfl; (with_reducible repeat (first | refine qH ?_ _ | refine qI ?_ | refine qG ?_ _)); refine qO (cs := #[.slice Ao13 t366.length co13, .slice Ao16 t369.length co16, .int .i64 0, .int .i64 0]) ?_ 2 _ rfl; (with_reducible repeat (first | refine qH ?_ _ | refine qI ?_ | refine qG ?_ _)); refine qO (cs := #[.slice Ao13 t366.length co13, .slice none 0 0, .int .i64 0, .int .i64 0]) ?_ 1 _ rfl; (with_reducible repeat (first | refine qH ?_ _ | refine qI ?_ | refine qG ?_ _)); refine qO (cs := #[.slice none 0 0, .slice none 0 0, .int .i64 0, .int .i64 0]) ?_ 0 _ rfl; (with_reducible repeat (first | refine qH ?_ _ | refine qI ?_ | refine qG ?_ _)); exact BK374.out⟩
          have n6_ : Aside0 (Below w.heap.size w ((((w12.setCell ⟨gb374, 0, none⟩ (.slice Ao13 t366.length co13)).setCell ⟨gb374, 1, none⟩ (.slice Ao16 t369.length co16)).setCell ⟨gb374, 2, none⟩ (.int .i64 t372)).setCell ⟨gb374, 3, none⟩ (.int .i64 t373))) := ⟨by repeat (first | (with_reducible first | exact HB.out | apply qF | apply qB | apply qE | refine qD ?_ GE365.out | refine qD ?_ GE374.out) | exact HB.out)⟩
          (try clear HO357)
          (try clear HO360)
          (try clear HO368)
          (try clear HO371)
          (try clear BK365)
          (try clear BK374)
          (try clear HB)
          generalize ((((w12.setCell ⟨gb374, 0, none⟩ (.slice Ao13 t366.length co13)).setCell ⟨gb374, 1, none⟩ (.slice Ao16 t369.length co16)).setCell ⟨gb374, 2, none⟩ (.int .i64 t372)).setCell ⟨gb374, 3, none⟩ (.int .i64 t373)) = w45 at n0_ n1_ n2_ n3_ n4_ n5_ n6_ ⊢
          have HO357 := n0_
          have HO360 := n1_
          have HO368 := n2_
          have HO371 := n3_
          have BK365 := n4_
          have BK374 := n5_
          have HB := n6_
          clear n0_ n1_ n2_ n3_ n4_ n5_ n6_
          have n0_ := Aside0.mk (Kd.zW HO357.out)
          have n1_ := Aside0.mk (Kd.zD HO360.out)
          have n2_ := Aside0.mk (Kd.zD HO368.out)
          have n3_ := Aside0.mk (Kd.zD HO371.out)
          have n4_ := Aside0.mk (qI BK365.out)
          have n5_ := Aside0.mk (qI BK374.out)
          have n6_ := Aside0.mk (qE HB.out)
          clear HO357
          clear HO360
          clear HO368
          clear HO371
          clear BK365
          clear BK374
          clear HB
          have HO357 := n0_
          have HO360 := n1_
          have HO368 := n2_
          have HO371 := n3_
          have BK365 := n4_
          have BK374 := n5_
          have HB := n6_
          clear n0_ n1_ n2_ n3_ n4_ n5_ n6_
          refine start_ (n := 26) (S := fun w' => w'.cell? ⟨gb374, 0, none⟩ = some (.slice Ao13 t366.length co13) ∧ w'.cell? ⟨gb374, 1, none⟩ = some (.slice Ao16 t369.length co16) ∧ w'.cell? ⟨gb374, 2, none⟩ = some (.int .i64 t372) ∧ w'.cell? ⟨gb374, 3, none⟩ = some (.int .i64 t373) ∧ w'.cell? ⟨gb365, 0, none⟩ = some (.slice Ao8 t355.length co8) ∧ w'.cell? ⟨gb365, 1, none⟩ = some (.slice Ao10 t358.length co10) ∧ w'.cell? ⟨gb365, 2, none⟩ = some (.int .i64 t361) ∧ w'.cell? ⟨gb365, 3, none⟩ = some (.int .i64 t362)) (ds := []) #[false, false, false, false, false, false, false, false, false, false, false, false, false, false, false, false, false, false, false, false, false, false, false, false, false, false] (by kernel_rfl) rfl rfl ⟨(qA BK374.out 0).trans rfl, (qA BK374.out 1).trans rfl, (qA BK374.out 2).trans rfl, (qA BK374.out 3).trans rfl, (qA BK365.out 0).trans rfl, (qA BK365.out 1).trans rfl, (qA BK365.out 2).trans rfl, (qA BK365.out 3).trans rfl⟩ (fun hHeld => ?_); refine xH laws_FnDiskLeft.tab5 laws_FnDiskLeft.bits5 (fun HT_ HW_ => ?_)
          generalize w45.drew = w46 at HO357 HO360 HO368 HO371 BK365 BK374 HB hHeld ⊢
          refine pure_ (i := 2) (N := some 26) (v := ?_) (a' := ?_) #[false, false, true, false, false, false, false, false, false, false, false, false, false, false, false, false, false, false, false, false, false, false, false, false, false, false] rfl rfl (zB HT_.out (by kernel_rfl)) (fun _ _ _ h => h) (Or.inl ⟨by rfl, ?_⟩) ?_ ?_
          rotate_left
          · intro w'
            go_simp
            with_reducible rfl
          rotate_left
          · simp only [Act.put, List.setIfInBounds_toArray, List.set_cons_zero, List.set_cons_succ, i64_w, i32_w]
            rfl
          refine pure_ (i := 3) (N := some 27) (v := ?_) (a' := ?_) #[false, false, true, true, false, false, false, false, false, false, false, false, false, false, false, false, false, false, false, false, false, false, false, false, false, false] rfl rfl (zB HT_.out (by kernel_rfl)) (fun _ _ _ h => h) (Or.inl ⟨by rfl, ?_⟩) ?_ ?_
          rotate_left
          · intro w'
            go_simp
            with_reducible rfl
          rotate_left
          · simp only [Act.put, List.setIfInBounds_toArray, List.set_cons_zero, List.set_cons_succ, i64_w, i32_w]
            rfl
          refine take_ (i := 0) (N := some 24) (v := ?_) (a' := ?_) #[true, false, true, true, false, false, false, false, false, false, false, false, false, false, false, false, false, false, false, false, false, false, false, false, false, false] rfl rfl (zQ HT_.out HW_.out (by kernel_rfl)) (fun _ _ _ h => h) (Or.inl ⟨by rfl, ?_⟩) hHeld ?_ ?_
          rotate_left
          · rintro w' ⟨s0, s1, s2, s3, s4, s5, s6, s7⟩
            go_simp
            with_reducible rfl
          rotate_left
          · simp only [Act.put, List.setIfInBounds_toArray, List.set_cons_zero, List.set_cons_succ, i64_w, i32_w]
            rfl
          refine take_ (i := 1) (N := some 25) (v := ?_) (a' := ?_) #[true, true, true, true, false, false, false, false, false, false, false, false, false, false, false, false, false, false, false, false, false, false, false, false, false, false] rfl rfl (zQ HT_.out HW_.out (by kernel_rfl)) (fun _ _ _ h => h) (Or.inl ⟨by rfl, ?_⟩) hHeld ?_ ?_
          rotate_left
          · rintro w' ⟨s0, s1, s2, s3, s4, s5, s6, s7⟩
            go_simp
            with_reducible rfl
          rotate_left
          · simp only [Act.put, List.setIfInBounds_toArray, List.set_cons_zero, List.set_cons_succ, i64_w, i32_w]
            rfl
          refine one_ (i := 4) (N := some 28) #[true, true, true, true, true, false, false, false, false, false, false, false, false, false, false, false, false, false, false, false, false, false, false, false, false, false] rfl rfl (zT HT_.out (by kernel_rfl)) (by decide) (fun K hK => ?_)
          refine goes_ Try.func14 (by kernel_rfl) rfl #[.agg #[.slice Ao8 t355.length co8, .slice Ao10 t358.length co10, .int .i64 t361, .int .i64 t362], .int .i64 t363, .int .i64 t364] (by rfl) rfl rfl (by (try simp only [List.map_toArray, List.map_cons, List.map_nil]); first | done | rfl | (simp only [List.length_drop, List.length_take]; rfl)) ?_
          with_reducible refine (spec_DiskSet.calls k _ _ t355 _ _ t358 t361 t362 t363 t364 t375 t378 t381 t382 _ ?side1 ?side2 ?side3 ?side4 A17.out).mono ?_
          (case side1 => repeat (first | exact (Kd.zN HO357.out).2.2 | (with_reducible refine Kd.qX ?_ _) | (with_reducible refine Kd.qY ?_ _) | (with_reducible refine Kd.zC ?_)))
          (case side2 => exact (Kd.zN HO357.out).2.1)
          (case side3 => repeat (first | exact (Kd.qT HO360.out).2.2 | (with_reducible refine Kd.qX ?_ _) | (with_reducible refine Kd.qY ?_ _) | (with_reducible refine Kd.zC ?_)))
          (case side4 => exact (Kd.qT HO360.out).2.1)
          rintro e w47 ⟨v376, v379, rfl, ho0, ho1, hb⟩
          refine ⟨_, rfl, ?_⟩
          have n0_ := Aside0.mk (Kd.xD (qw_ HO357.out) (Kd.zP ho0) hb)
          have n1_ := Aside0.mk (Kd.zO (rw_ HO360.out) (Kd.zP ho1) hb)
          have n2_ := Aside0.mk (Kd.zO (rw_ HO368.out) (Kd.zP ho0) hb)
          have n3_ := Aside0.mk (Kd.zO (rw_ HO371.out) (Kd.zP ho1) hb)
          have n4_ := Aside0.mk (Kd.zJ (Kd.zR (Kd.zR ho0 (Kd.Q_lt (qw_ HO357.out))) (Kd.R_lt (rw_ HO368.out))) (qK (by repeat (first | (with_reducible first | exact HB.out | apply qF | apply qB | apply qE | refine qD ?_ GE365.out | refine qD ?_ GE374.out) | exact HB.out))))
          have n5_ := Aside0.mk (Kd.zJ (Kd.zR (Kd.zR ho1 (Kd.R_lt (rw_ HO360.out))) (Kd.R_lt (rw_ HO371.out))) (qK (by repeat (first | (with_reducible first | exact HB.out | apply qF | apply qB | apply qE | refine qD ?_ GE365.out | refine qD ?_ GE374.out) | exact HB.out))))
          have n6_ := Aside0.mk (qJ (g := gb365) (o := .cells #[.slice Ao8 t355.length co8, .slice Ao10 t358.length co10, .int .i64 t361, .int .i64 t362] 26 (0, 0)) (bw_ BK365.out) hb)
          have n7_ := Aside0.mk (qJ (g := gb374) (o := .cells #[.slice Ao13 t366.length co13, .slice Ao16 t369.length co16, .int .i64 t372, .int .i64 t373] 26 (0, 0)) (bw_ BK374.out) hb)
          have n8_ := Aside0.mk (qL (by repeat (first | (with_reducible first | exact HB.out | apply qF | apply qB | apply qE | refine qD ?_ GE365.out | refine qD ?_ GE374.out) | exact HB.out)) hb)
          clear HO357
          clear HO360
          clear HO368
          clear HO371
          clear BK365
          clear BK374
          clear HB
          have HO357 := n0_
          have HO360 := n1_
          have HO368 := n2_
          have HO371 := n3_
          have HO377 := n4_
          have HO380 := n5_
          have BK365 := n6_
          have BK374 := n7_
          have HB := n8_
          clear n0_ n1_ n2_ n3_ n4_ n5_ n6_ n7_ n8_
          (try clear hb)
          (try clear hb2)
          (try clear hk)
          (try clear hi)
          (try clear ho0)
          (try clear ho1)
          obtain ⟨Ao48, co48, eo48⟩ := Kd.zE HO377.out
          (first | subst eo48 | (injection eo48 with f1_ f2_ f3_; have f4_ := f1_.symm; have f5_ := f3_.symm; clear f1_ f2_ f3_; subst f4_; subst f5_))
          obtain ⟨Ao49, co49, eo49⟩ := Kd.zE HO380.out
          (first | subst eo49 | (injection eo49 with f1_ f2_ f3_; have f4_ := f1_.symm; have f5_ := f3_.symm; clear f1_ f2_ f3_; subst f4_; subst f5_))
          refine hK.out _ _ ⟨(qA BK374.out 0).trans rfl, (qA BK374.out 1).trans rfl, (qA BK374.out 2).trans rfl, (qA BK374.out 3).trans rfl, (qA BK365.out 0).trans rfl, (qA BK365.out 1).trans rfl, (qA BK365.out 2).trans rfl, (qA BK365.out 3).trans rfl⟩ (fun hHeld => ?_)
          clear hK K
          refine norm_ (a' := ?_) ?_ ?_
          rotate_left
          · show Act.put _ (some 28) _ = _
            simp only [Act.put, List.setIfInBounds_toArray, List.set_cons_zero, List.set_cons_succ, i64_w, i32_w]
            rfl
          refine one_ (i := 5) (N := some 29) #[true, true, true, true, true, true, false, false, false, false, false, false, false, false, false, false, false, false, false, false, false, false, false, false, false, false] rfl rfl (zT HT_.out (by kernel_rfl)) (by decide) (fun K hK => ?_)
          refine goes_ Try.func13 (by kernel_rfl) rfl #[.agg #[.slice Ao13 t366.length co13, .slice Ao16 t369.length co16, .int .i64 t372, .int .i64 t373], .agg #[.slice Ao48 t375.length co48, .slice Ao49 t378.length co49, .int .i64 t381, .int .i64 t382]] (by rfl) rfl rfl (by (try simp only [List.map_toArray, List.map_cons, List.map_nil]); first | done | rfl | (simp only [List.length_drop, List.length_take]; rfl)) ?_
          with_reducible refine (laws_jtDisk.calls k _ _ t366 _ _ t369 t372 t373 _ _ t375 _ _ t378 t381 t382 true _ ?side1 ?side2 ?side3 ?side4 ?side5 ?side6 ?side7 ?side8 A18.out).mono ?_
          (case side1 => repeat (first | exact (Kd.qT HO368.out).2.2 | (with_reducible refine Kd.qX ?_ _) | (with_reducible refine Kd.qY ?_ _) | (with_reducible refine Kd.zC ?_)))
          (case side2 => exact (Kd.qT HO368.out).2.1)
          (case side3 => repeat (first | exact (Kd.qT HO371.out).2.2 | (with_reducible refine Kd.qX ?_ _) | (with_reducible refine Kd.qY ?_ _) | (with_reducible refine Kd.zC ?_)))
          (case side4 => exact (Kd.qT HO371.out).2.1)
          (case side5 => repeat (first | exact (Kd.qT HO377.out).2.2 | (with_reducible refine Kd.qX ?_ _) | (with_reducible refine Kd.qY ?_ _) | (with_reducible refine Kd.zC ?_)))
          (case side6 => exact (Kd.qT HO377.out).2.1)
          (case side7 => repeat (first | exact (Kd.qT HO380.out).2.2 | (with_reducible refine Kd.qX ?_ _) | (with_reducible refine Kd.qY ?_ _) | (with_reducible refine Kd.zC ?_)))
          (case side8 => exact (Kd.qT HO380.out).2.1)
          rintro e w50 ⟨rfl, hb⟩
          refine ⟨_, rfl, ?_⟩
          have n0_ := Aside0.mk (Kd.zU (qw_ HO357.out) hb)
          have n1_ := Aside0.mk (Kd.qZ (rw_ HO360.out) hb)
          have n2_ := Aside0.mk (Kd.qZ (rw_ HO368.out) hb)
          have n3_ := Aside0.mk (Kd.qZ (rw_ HO371.out) hb)
          have n4_ := Aside0.mk (Kd.qZ (rw_ HO377.out) hb)
          have n5_ := Aside0.mk (Kd.qZ (rw_ HO380.out) hb)
          have n6_ := Aside0.mk (qJ (g := gb365) (o := .cells #[.slice Ao8 t355.length co8, .slice Ao10 t358.length co10, .int .i64 t361, .int .i64 t362] 26 (0, 0)) (bw_ BK365.out) hb)
          have n7_ := Aside0.mk (qJ (g := gb374) (o := .cells #[.slice Ao13 t366.length co13, .slice Ao16 t369.length co16, .int .i64 t372, .int .i64 t373] 26 (0, 0)) (bw_ BK374.out) hb)
          have n8_ := Aside0.mk (qL (by repeat (first | (with_reducible first | exact HB.out | apply qF | apply qB | apply qE | refine qD ?_ GE365.out | refine qD ?_ GE374.out) | exact HB.out)) hb)
          clear HO357
          clear HO360
          clear HO368
          clear HO371
          clear HO377
          clear HO380
          clear BK365
          clear BK374
          clear HB
          have HO357 := n0_
          have HO360 := n1_
          have HO368 := n2_
          have HO371 := n3_
          have HO377 := n4_
          have HO380 := n5_
          have BK365 := n6_
          have BK374 := n7_
          have HB := n8_
          clear n0_ n1_ n2_ n3_ n4_ n5_ n6_ n7_ n8_
          (try clear hb)
          (try clear hb2)
          (try clear hk)
          (try clear hi)
          refine hK.out _ _ ⟨(qA BK374.out 0).trans rfl, (qA BK374.out 1).trans rfl, (qA BK374.out 2).trans rfl, (qA BK374.out 3).trans rfl, (qA BK365.out 0).trans rfl, (qA BK365.out 1).trans rfl, (qA BK365.out 2).trans rfl, (qA BK365.out 3).trans rfl⟩ (fun hHeld => ?_)
          clear hK K
          refine norm_ (a' := ?_) ?_ ?_
          rotate_left
          · show Act.put _ (some 29) _ = _
            simp only [Act.put, List.setIfInBounds_toArray, List.set_cons_zero, List.set_cons_succ, i64_w, i32_w]
            rfl
          refine pure_ (i := 6) (N := some 30) (v := ?_) (a' := ?_) #[true, true, true, true, true, true, true, false, false, false, false, false, false, false, false, false, false, false, false, false, false, false, false, false, false, false] rfl rfl (zB HT_.out (by kernel_rfl)) (fun _ _ _ h => h) (Or.inl ⟨by rfl, ?_⟩) ?_ ?_
          rotate_left
          · intro w'
            go_simp
            with_reducible rfl
          rotate_left
          · simp only [Act.put, List.setIfInBounds_toArray, List.set_cons_zero, List.set_cons_succ, i64_w, i32_w]
            rfl
          refine pure_ (i := 7) (N := some 31) (v := ?_) (a' := ?_) #[true, true, true, true, true, true, true, true, false, false, false, false, false, false, false, false, false, false, false, false, false, false, false, false, false, false] rfl rfl (zB HT_.out (by kernel_rfl)) (fun _ _ _ h => h) (Or.inl ⟨by rfl, ?_⟩) ?_ ?_
          rotate_left
          · intro w'
            go_simp
            with_reducible rfl
          rotate_left
          · simp only [Act.put, List.setIfInBounds_toArray, List.set_cons_zero, List.set_cons_succ, i64_w, i32_w]
            rfl
          refine take_ (i := 8) (N := some 32) (v := ?_) (a' := ?_) #[true, true, true, true, true, true, true, true, true, false, false, false, false, false, false, false, false, false, false, false, false, false, false, false, false, false] rfl rfl (zQ HT_.out HW_.out (by kernel_rfl)) (fun _ _ _ h => h) (Or.inl ⟨by rfl, ?_⟩) hHeld ?_ ?_
          rotate_left
          · rintro w' ⟨s0, s1, s2, s3, s4, s5, s6, s7⟩
            go_simp
            with_reducible rfl
          rotate_left
          · simp only [Act.put, List.setIfInBounds_toArray, List.set_cons_zero, List.set_cons_succ, i64_w, i32_w]
            rfl
          refine one_ (i := 9) (N := some 33) #[true, true, true, true, true, true, true, true, true, true, false, false, false, false, false, false, false, false, false, false, false, false, false, false, false, false] rfl rfl (zT HT_.out (by kernel_rfl)) (by decide) (fun K hK => ?_)
          refine goes_ Try.func15 (by kernel_rfl) rfl #[.agg #[.slice Ao8 t355.length co8, .slice Ao10 t358.length co10, .int .i64 t361, .int .i64 t362]] (by rfl) rfl rfl (by (try simp only [List.map_toArray, List.map_cons, List.map_nil]); first | done | rfl | (simp only [List.length_drop, List.length_take]; rfl)) ?_
          with_reducible refine (spec_DiskOk.calls k _ _ t355 _ _ t358 t361 t362 false _ ?side1 ?side2 ?side3 ?side4 A20.out).mono ?_
          (case side1 => repeat (first | exact (Kd.zN HO357.out).2.2 | (with_reducible refine Kd.qX ?_ _) | (with_reducible refine Kd.qY ?_ _) | (with_reducible refine Kd.zC ?_)))
          (case side2 => exact (Kd.zN HO357.out).2.1)
          (case side3 => repeat (first | exact (Kd.qT HO360.out).2.2 | (with_reducible refine Kd.qX ?_ _) | (with_reducible refine Kd.qY ?_ _) | (with_reducible refine Kd.zC ?_)))
          (case side4 => exact (Kd.qT HO360.out).2.1)
          rintro e w51 ⟨rfl, hb⟩
          refine ⟨_, rfl, ?_⟩
          have n0_ := Aside0.mk (Kd.zU (qw_ HO357.out) hb)
          have n1_ := Aside0.mk (Kd.qZ (rw_ HO360.out) hb)
          have n2_ := Aside0.mk (Kd.qZ (rw_ HO368.out) hb)
          have n3_ := Aside0.mk (Kd.qZ (rw_ HO371.out) hb)
          have n4_ := Aside0.mk (Kd.qZ (rw_ HO377.out) hb)
          have n5_ := Aside0.mk (Kd.qZ (rw_ HO380.out) hb)
          have n6_ := Aside0.mk (qJ (g := gb365) (o := .cells #[.slice Ao8 t355.length co8, .slice Ao10 t358.length co10, .int .i64 t361, .int .i64 t362] 26 (0, 0)) (bw_ BK365.out) hb)
          have n7_ := Aside0.mk (qJ (g := gb374) (o := .cells #[.slice Ao13 t366.length co13, .slice Ao16 t369.length co16, .int .i64 t372, .int .i64 t373] 26 (0, 0)) (bw_ BK374.out) hb)
          have n8_ := Aside0.mk (qL (by repeat (first | (with_reducible first | exact HB.out | apply qF | apply qB | apply qE | refine qD ?_ GE365.out | refine qD ?_ GE374.out) | exact HB.out)) hb)
          clear HO357
          clear HO360
          clear HO368
          clear HO371
          clear HO377
          clear HO380
          clear BK365
          clear BK374
          clear HB
          have HO357 := n0_
          have HO360 := n1_
          have HO368 := n2_
          have HO371 := n3_
          have HO377 := n4_
          have HO380 := n5_
          have BK365 := n6_
          have BK374 := n7_
          have HB := n8_
          clear n0_ n1_ n2_ n3_ n4_ n5_ n6_ n7_ n8_
          (try clear hb)
          (try clear hb2)
          (try clear hk)
          (try clear hi)
          refine hK.out _ _ ⟨(qA BK374.out 0).trans rfl, (qA BK374.out 1).trans rfl, (qA BK374.out 2).trans rfl, (qA BK374.out 3).trans rfl, (qA BK365.out 0).trans rfl, (qA BK365.out 1).trans rfl, (qA BK365.out 2).trans rfl, (qA BK365.out 3).trans rfl⟩ (fun hHeld => ?_)
          clear hK K
          refine norm_ (a' := ?_) ?_ ?_
          rotate_left
          · show Act.put _ (some 33) _ = _
            simp only [Act.put, List.setIfInBounds_toArray, List.set_cons_zero, List.set_cons_succ, i64_w, i32_w]
            rfl
          refine pure_ (i := 10) (N := some 34) (v := ?_) (a' := ?_) #[true, true, true, true, true, true, true, true, true, true, true, false, false, false, false, false, false, false, false, false, false, false, false, false, false, false] rfl rfl (zB HT_.out (by kernel_rfl)) (fun _ _ _ h => h) (Or.inl ⟨by rfl, ?_⟩) ?_ ?_
          rotate_left
          · intro w'
            go_simp
            with_reducible rfl
          rotate_left
          · simp only [Act.put, List.setIfInBounds_toArray, List.set_cons_zero, List.set_cons_succ, i64_w, i32_w]
            rfl
          refine pure_ (i := 11) (N := some 35) (v := ?_) (a' := ?_) #[true, true, true, true, true, true, true, true, true, true, true, true, false, false, false, false, false, false, false, false, false, false, false, false, false, false] rfl rfl (zB HT_.out (by kernel_rfl)) (fun _ _ _ h => h) (Or.inl ⟨by rfl, ?_⟩) ?_ ?_
          rotate_left
          · intro w'
            go_simp
            with_reducible rfl
          rotate_left
          · simp only [Act.put, List.setIfInBounds_toArray, List.set_cons_zero, List.set_cons_succ, i64_w, i32_w]
            rfl
          refine pure_ (i := 12) (N := some 36) (v := ?_) (a' := ?_) #[true, true, true, true, true, true, true, true, true, true, true, true, true, false, false, false, false, false, false, false, false, false, false, false, false, false] rfl rfl (zB HT_.out (by kernel_rfl)) (fun _ _ _ h => h) (Or.inl ⟨by rfl, ?_⟩) ?_ ?_
          rotate_left
          · intro w'
            go_simp
            with_reducible rfl
          rotate_left
          · simp only [Act.put, List.setIfInBounds_toArray, List.set_cons_zero, List.set_cons_succ, i64_w, i32_w]
            rfl
          refine pure_ (i := 13) (N := some 37) (v := undef) (a' := ?_) #[true, true, true, true, true, true, true, true, true, true, true, true, true, true, false, false, false, false, false, false, false, false, false, false, false, false] rfl rfl (zB HT_.out (by kernel_rfl)) (fun _ _ _ h => h) (Or.inr ⟨by rfl, rfl⟩) ?_ ?_
          rotate_left
          · simp only [Act.put, List.setIfInBounds_toArray, List.set_cons_zero, List.set_cons_succ, i64_w, i32_w]
            rfl
          refine pure_ (i := 14) (N := some 38) (v := undef) (a' := ?_) #[true, true, true, true, true, true, true, true, true, true, true, true, true, true, true, false, false, false, false, false, false, false, false, false, false, false] rfl rfl (zB HT_.out (by kernel_rfl)) (fun _ _ _ h => h) (Or.inr ⟨by rfl, rfl⟩) ?_ ?_
          rotate_left
          · simp only [Act.put, List.setIfInBounds_toArray, List.set_cons_zero, List.set_cons_succ, i64_w, i32_w]
            rfl
          refine pure_ (i := 15) (N := some 39) (v := ?_) (a' := ?_) #[true, true, true, true, true, true, true, true, true, true, true, true, true, true, true, true, false, false, false, false, false, false, false, false, false, false] rfl rfl (zB HT_.out (by kernel_rfl)) (fun _ _ _ h => h) (Or.inl ⟨by rfl, ?_⟩) ?_ ?_
          rotate_left
          · intro w'
            go_simp
            with_reducible rfl
          rotate_left
          · simp only [Act.put, List.setIfInBounds_toArray, List.set_cons_zero, List.set_cons_succ, i64_w, i32_w]
            rfl
          refine pure_ (i := 16) (N := some 40) (v := ?_) (a' := ?_) #[true, true, true, true, true, true, true, true, true, true, true, true, true, true, true, true, true, false, false, false, false, false, false, false, false, false] rfl rfl (zB HT_.out (by kernel_rfl)) (fun _ _ _ h => h) (Or.inl ⟨by rfl, ?_⟩) ?_ ?_
          rotate_left
          · intro w'
            go_simp
            with_reducible rfl
          rotate_left
          · simp only [Act.put, List.setIfInBounds_toArray, List.set_cons_zero, List.set_cons_succ, i64_w, i32_w]
            rfl
          refine pure_ (i := 17) (N := some 41) (v := undef) (a' := ?_) #[true, true, true, true, true, true, true, true, true, true, true, true, true, true, true, true, true, true, false, false, false, false, false, false, false, false] rfl rfl (zB HT_.out (by kernel_rfl)) (fun _ _ _ h => h) (Or.inr ⟨by rfl, rfl⟩) ?_ ?_
          rotate_left
          · simp only [Act.put, List.setIfInBounds_toArray, List.set_cons_zero, List.set_cons_succ, i64_w, i32_w]
            rfl
          refine pure_ (i := 18) (N := some 42) (v := undef) (a' := ?_) #[true, true, true, true, true, true, true, true, true, true, true, true, true, true, true, true, true, true, true, false, false, false, false, false, false, false] rfl rfl (zB HT_.out (by kernel_rfl)) (fun _ _ _ h => h) (Or.inr ⟨by rfl, rfl⟩) ?_ ?_
          rotate_left
          · simp only [Act.put, List.setIfInBounds_toArray, List.set_cons_zero, List.set_cons_succ, i64_w, i32_w]
            rfl
          refine pure_ (i := 19) (N := some 43) (v := ?_) (a' := ?_) #[true, true, true, true, true, true, true, true, true, true, true, true, true, true, true, true, true, true, true, true, false, false, false, false, false, false] rfl rfl (zB HT_.out (by kernel_rfl)) (fun _ _ _ h => h) (Or.inl ⟨by rfl, ?_⟩) ?_ ?_
          rotate_left
          · intro w'
            go_simp
            with_reducible rfl
          rotate_left
          · simp only [Act.put, List.setIfInBounds_toArray, List.set_cons_zero, List.set_cons_succ, i64_w, i32_w]
            rfl
          refine pure_ (i := 20) (N := some 44) (v := ?_) (a' := ?_) #[true, true, true, true, true, true, true, true, true, true, true, true, true, true, true, true, true, true, true, true, true, false, false, false, false, false] rfl rfl (zB HT_.out (by kernel_rfl)) (fun _ _ _ h => h) (Or.inl ⟨by rfl, ?_⟩) ?_ ?_
          rotate_left
          · intro w'
            go_simp
            with_reducible rfl
          rotate_left
          · simp only [Act.put, List.setIfInBounds_toArray, List.set_cons_zero, List.set_cons_succ, i64_w, i32_w]
            rfl
          refine pure_ (i := 21) (N := some 45) (v := undef) (a' := ?_) #[true, true, true, true, true, true, true, true, true, true, true, true, true, true, true, true, true, true, true, true, true, true, false, false, false, false] rfl rfl (zB HT_.out (by kernel_rfl)) (fun _ _ _ h => h) (Or.inr ⟨by rfl, rfl⟩) ?_ ?_
          rotate_left
          · simp only [Act.put, List.setIfInBounds_toArray, List.set_cons_zero, List.set_cons_succ, i64_w, i32_w]
            rfl
          refine pure_ (i := 22) (N := some 46) (v := undef) (a' := ?_) #[true, true, true, true, true, true, true, true, true, true, true, true, true, true, true, true, true, true, true, true, true, true, true, false, false, false] rfl rfl (zB HT_.out (by kernel_rfl)) (fun _ _ _ h => h) (Or.inr ⟨by rfl, rfl⟩) ?_ ?_
          rotate_left
          · simp only [Act.put, List.setIfInBounds_toArray, List.set_cons_zero, List.set_cons_succ, i64_w, i32_w]
            rfl
          refine pure_ (i := 23) (N := some 47) (v := undef) (a' := ?_) #[true, true, true, true, true, true, true, true, true, true, true, true, true, true, true, true, true, true, true, true, true, true, true, true, false, false] rfl rfl (zB HT_.out (by kernel_rfl)) (fun _ _ _ h => h) (Or.inr ⟨by rfl, rfl⟩) ?_ ?_
          rotate_left
          · simp only [Act.put, List.setIfInBounds_toArray, List.set_cons_zero, List.set_cons_succ, i64_w, i32_w]
            rfl
          refine pure_ (i := 24) (N := some 48) (v := undef) (a' := ?_) #[true, true, true, true, true, true, true, true, true, true, true, true, true, true, true, true, true, true, true, true, true, true, true, true, true, false] rfl rfl (zB HT_.out (by kernel_rfl)) (fun _ _ _ h => h) (Or.inr ⟨by rfl, rfl⟩) ?_ ?_
          rotate_left
          · simp only [Act.put, List.setIfInBounds_toArray, List.set_cons_zero, List.set_cons_succ, i64_w, i32_w]
            rfl
          refine pure_ (i := 25) (N := some 49) (v := ?_) (a' := ?_) #[true, true, true, true, true, true, true, true, true, true, true, true, true, true, true, true, true, true, true, true, true, true, true, true, true, true] rfl rfl (zB HT_.out (by kernel_rfl)) (fun _ _ _ h => h) (Or.inl ⟨by rfl, ?_⟩) ?_ ?_
          rotate_left
          · intro w'
            go_simp
            with_reducible rfl
          rotate_left
          · simp only [Act.put, List.setIfInBounds_toArray, List.set_cons_zero, List.set_cons_succ, i64_w, i32_w]
            rfl
          refine done_ (done_of HT_.out (by kernel_rfl)) ?_
          try go_wp2
          go_meet
          case rel => exact ⟨_, (true), (by first | rfl | (simp; done) | (simp [*]; done)), H', ⟨by first | omega | exact Nat.le_refl _⟩, ⟨by (with_reducible repeat (first | apply Kd.xA | apply Kd.xB | apply Kd.zW)); exact Kd.zX HO357.out (fun _ hk => hk.1)⟩, ⟨by (with_reducible repeat (first | apply Kd.zI | apply Kd.zH | apply Kd.zD)); exact Kd.qS HO360.out (fun _ hk => hk.1)⟩, ⟨Kd.Q_of_R (rw_ (Kd.qS HO368.out (fun _ hk => hk.1)))⟩, ⟨by (with_reducible repeat (first | apply Kd.zI | apply Kd.zH | apply Kd.zD)); exact Kd.qS HO371.out (fun _ hk => hk.1)⟩, ⟨by (with_reducible repeat (first | refine qH ?_ _ | refine qI ?_ | refine qG ?_ _)); exact BK365.out⟩, ⟨by (with_reducible repeat (first | refine qH ?_ _ | refine qI ?_ | refine qG ?_ _)); exact BK374.out⟩, ⟨by repeat (first | (with_reducible first | exact HB.out | apply qF | apply qB | apply qE | refine qD ?_ GE365.out | refine qD ?_ GE374.out) | exact HB.out)⟩⟩
      · replace c19 := Bool.eq_false_iff.mpr c19
        subst c19
        have H1 : (none) = some true := by rw [if_neg (show ¬ (false = true) by decide)] at H; exact H
        clear H
        have H := H1
        clear H1
        exact absurd H (by simp)
    case rest =>
      clear HC5
      try clear c1
      try clear c2
      try clear p2
      try clear c13
      try clear c14
      try clear c15
      try clear c19
      try clear c21
      obtain ⟨kq, x49_4, rfl, HA, HJ4, HO_366000, HO_366001, HO_375000, HO_375001, BK365, BK374, HB⟩ := hcut
      cases kq with
      | zero => exact absurd HA.out (by simp [laws_FnDiskLeft.j0])
      | succ kj4 =>
        have H := HA.out
        clear HA
        simp only [laws_FnDiskLeft.j0] at H
        by_cases c52 : x49_4 = true
        · subst c52
          have H1 : ((spec_DiskSet.f kj4 t355 t358 t361 t362 t363 t364).bind fun bt385 => ((laws_jtDisk.f kj4 t366 t369 t372 t373 bt385.1 bt385.2.1 bt385.2.2.1 bt385.2.2.2).bind fun t393 => (some t393))) = some true := by rw [if_pos rfl] at H; exact H
          clear H
          have H := H1
          clear H1
          replace H := Option.bind_eq_some_iff.mp H
          obtain ⟨⟨t385, t388, t391, t392⟩, A530, H⟩ := H
          replace H : ((laws_jtDisk.f kj4 t366 t369 t372 t373 t385 t388 t391 t392).bind fun t393 => (some t393)) = some true := H
          have A53 := Aside0.mk A530
          clear A530
          replace H := Option.bind_eq_some_iff.mp H
          obtain ⟨t393, A540, H⟩ := H
          replace H : (some t393) = some true := H
          have A54 := Aside0.mk A540
          clear A540
          have HT_ : t393 = true := Option.some.inj H
          clear H
          try go_wp2
          have n0_ := Aside0.mk (Kd.zW HO_366000.out)
          have n1_ := Aside0.mk (Kd.zD HO_366001.out)
          have n2_ := Aside0.mk (Kd.zW HO_375000.out)
          have n3_ := Aside0.mk (Kd.zD HO_375001.out)
          have n4_ := Aside0.mk (qI BK365.out)
          have n5_ := Aside0.mk (qI BK374.out)
          have n6_ := Aside0.mk (qE HB.out)
          clear HO_366000
          clear HO_366001
          clear HO_375000
          clear HO_375001
          clear BK365
          clear BK374
          clear HB
          have HO_366000 := n0_
          have HO_366001 := n1_
          have HO_375000 := n2_
          have HO_375001 := n3_
          have BK365 := n4_
          have BK374 := n5_
          have HB := n6_
          clear n0_ n1_ n2_ n3_ n4_ n5_ n6_
          refine start_ (n := 7) (S := fun w' => w'.cell? ⟨gb374, 0, none⟩ = some (.slice Ao13 t366.length co13) ∧ w'.cell? ⟨gb374, 1, none⟩ = some (.slice Ao16 t369.length co16) ∧ w'.cell? ⟨gb374, 2, none⟩ = some (.int .i64 t372) ∧ w'.cell? ⟨gb374, 3, none⟩ = some (.int .i64 t373) ∧ w'.cell? ⟨gb365, 0, none⟩ = some (.slice Ao8 t355.length co8) ∧ w'.cell? ⟨gb365, 1, none⟩ = some (.slice Ao10 t358.length co10) ∧ w'.cell? ⟨gb365, 2, none⟩ = some (.int .i64 t361) ∧ w'.cell? ⟨gb365, 3, none⟩ = some (.int .i64 t362)) (ds := []) #[false, false, false, false, false, false, false] (by kernel_rfl) rfl rfl ⟨(qA BK374.out 0).trans rfl, (qA BK374.out 1).trans rfl, (qA BK374.out 2).trans rfl, (qA BK374.out 3).trans rfl, (qA BK365.out 0).trans rfl, (qA BK365.out 1).trans rfl, (qA BK365.out 2).trans rfl, (qA BK365.out 3).trans rfl⟩ (fun hHeld => ?_)
          generalize wc.drew = w55 at HO_366000 HO_366001 HO_375000 HO_375001 BK365 BK374 HB hHeld ⊢
          refine pure_ (i := 2) (N := some 52) (v := ?_) (a' := ?_) #[false, false, true, false, false, false, false] rfl rfl (by kernel_rfl) (fun _ _ _ h => h) (Or.inl ⟨by rfl, ?_⟩) ?_ ?_
          rotate_left
          · intro w'
            go_simp
            with_reducible rfl
          rotate_left
          · simp only [Act.put, List.setIfInBounds_toArray, List.set_cons_zero, List.set_cons_succ, i64_w, i32_w]
            rfl
          refine pure_ (i := 3) (N := some 53) (v := ?_) (a' := ?_) #[false, false, true, true, false, false, false] rfl rfl (by kernel_rfl) (fun _ _ _ h => h) (Or.inl ⟨by rfl, ?_⟩) ?_ ?_
          rotate_left
          · intro w'
            go_simp
            with_reducible rfl
          rotate_left
          · simp only [Act.put, List.setIfInBounds_toArray, List.set_cons_zero, List.set_cons_succ, i64_w, i32_w]
            rfl
          refine take_ (i := 0) (N := some 50) (v := ?_) (a' := ?_) #[true, false, true, true, false, false, false] rfl rfl (by kernel_rfl) (fun _ _ _ h => h) (Or.inl ⟨by rfl, ?_⟩) hHeld ?_ ?_
          rotate_left
          · rintro w' ⟨s0, s1, s2, s3, s4, s5, s6, s7⟩
            go_simp
            with_reducible rfl
          rotate_left
          · simp only [Act.put, List.setIfInBounds_toArray, List.set_cons_zero, List.set_cons_succ, i64_w, i32_w]
            rfl
          refine take_ (i := 1) (N := some 51) (v := ?_) (a' := ?_) #[true, true, true, true, false, false, false] rfl rfl (by kernel_rfl) (fun _ _ _ h => h) (Or.inl ⟨by rfl, ?_⟩) hHeld ?_ ?_
          rotate_left
          · rintro w' ⟨s0, s1, s2, s3, s4, s5, s6, s7⟩
            go_simp
            with_reducible rfl
          rotate_left
          · simp only [Act.put, List.setIfInBounds_toArray, List.set_cons_zero, List.set_cons_succ, i64_w, i32_w]
            rfl
          refine one_ (i := 4) (N := some 54) #[true, true, true, true, true, false, false] rfl rfl (by kernel_rfl) (by decide) (fun K hK => ?_)
          refine goes_ Try.func14 (by kernel_rfl) rfl #[.agg #[.slice Ao8 t355.length co8, .slice Ao10 t358.length co10, .int .i64 t361, .int .i64 t362], .int .i64 t363, .int .i64 t364] (by rfl) rfl rfl (by (try simp only [List.map_toArray, List.map_cons, List.map_nil]); first | done | rfl | (simp only [List.length_drop, List.length_take]; rfl)) ?_
          with_reducible refine (spec_DiskSet.calls kj4 _ _ t355 _ _ t358 t361 t362 t363 t364 t385 t388 t391 t392 _ ?side1 ?side2 ?side3 ?side4 A53.out).mono ?_
          (case side1 => repeat (first | exact (Kd.zN HO_366000.out).2.2 | (with_reducible refine Kd.qX ?_ _) | (with_reducible refine Kd.qY ?_ _) | (with_reducible refine Kd.zC ?_)))
          (case side2 => exact (Kd.zN HO_366000.out).2.1)
          (case side3 => repeat (first | exact (Kd.qT HO_366001.out).2.2 | (with_reducible refine Kd.qX ?_ _) | (with_reducible refine Kd.qY ?_ _) | (with_reducible refine Kd.zC ?_)))
          (case side4 => exact (Kd.qT HO_366001.out).2.1)
          rintro e w56 ⟨v386, v389, rfl, ho0, ho1, hb⟩
          refine ⟨_, rfl, ?_⟩
          have n0_ := Aside0.mk (Kd.xD (qw_ HO_366000.out) (Kd.zP ho0) hb)
          have n1_ := Aside0.mk (Kd.zO (rw_ HO_366001.out) (Kd.zP ho1) hb)
          have n2_ := Aside0.mk (Kd.xD (qw_ HO_375000.out) (Kd.zP ho0) hb)
          have n3_ := Aside0.mk (Kd.zO (rw_ HO_375001.out) (Kd.zP ho1) hb)
          have n4_ := Aside0.mk (Kd.zJ (Kd.zR (Kd.zR ho0 (Kd.Q_lt (qw_ HO_366000.out))) (Kd.Q_lt (qw_ HO_375000.out))) (qK (by repeat (first | (with_reducible first | exact HB.out | apply qF | apply qB | apply qE | refine qD ?_ GE365.out | refine qD ?_ GE374.out) | exact HB.out))))
          have n5_ := Aside0.mk (Kd.zJ (Kd.zR (Kd.zR ho1 (Kd.R_lt (rw_ HO_366001.out))) (Kd.R_lt (rw_ HO_375001.out))) (qK (by repeat (first | (with_reducible first | exact HB.out | apply qF | apply qB | apply qE | refine qD ?_ GE365.out | refine qD ?_ GE374.out) | exact HB.out))))
          have n6_ := Aside0.mk (qJ (g := gb365) (o := .cells #[.slice Ao8 t355.length co8, .slice Ao10 t358.length co10, .int .i64 t361, .int .i64 t362] 26 (0, 0)) (bw_ BK365.out) hb)
          have n7_ := Aside0.mk (qJ (g := gb374) (o := .cells #[.slice Ao13 t366.length co13, .slice Ao16 t369.length co16, .int .i64 t372, .int .i64 t373] 26 (0, 0)) (bw_ BK374.out) hb)
          have n8_ := Aside0.mk (qL (by repeat (first | (with_reducible first | exact HB.out | apply qF | apply qB | apply qE | refine qD ?_ GE365.out | refine qD ?_ GE374.out) | exact HB.out)) hb)
          clear HO_366000
          clear HO_366001
          clear HO_375000
          clear HO_375001
          clear BK365
          clear BK374
          clear HB
          have HO_366000 := n0_
          have HO_366001 := n1_
          have HO_375000 := n2_
          have HO_375001 := n3_
          have HO387 := n4_
          have HO390 := n5_
          have BK365 := n6_
          have BK374 := n7_
          have HB := n8_
          clear n0_ n1_ n2_ n3_ n4_ n5_ n6_ n7_ n8_
          (try clear hb)
          (try clear hb2)
          (try clear hk)
          (try clear hi)
          (try clear ho0)
          (try clear ho1)
          obtain ⟨Ao57, co57, eo57⟩ := Kd.zE HO387.out
          (first | subst eo57 | (injection eo57 with f1_ f2_ f3_; have f4_ := f1_.symm; have f5_ := f3_.symm; clear f1_ f2_ f3_; subst f4_; subst f5_))
          obtain ⟨Ao58, co58, eo58⟩ := Kd.zE HO390.out
          (first | subst eo58 | (injection eo58 with f1_ f2_ f3_; have f4_ := f1_.symm; have f5_ := f3_.symm; clear f1_ f2_ f3_; subst f4_; subst f5_))
          refine hK.out _ _ ⟨(qA BK374.out 0).trans rfl, (qA BK374.out 1).trans rfl, (qA BK374.out 2).trans rfl, (qA BK374.out 3).trans rfl, (qA BK365.out 0).trans rfl, (qA BK365.out 1).trans rfl, (qA BK365.out 2).trans rfl, (qA BK365.out 3).trans rfl⟩ (fun hHeld => ?_)
          clear hK K
          refine norm_ (a' := ?_) ?_ ?_
          rotate_left
          · show Act.put _ (some 54) _ = _
            simp only [Act.put, List.setIfInBounds_toArray, List.set_cons_zero, List.set_cons_succ, i64_w, i32_w]
            rfl
          refine one_ (i := 5) (N := some 55) #[true, true, true, true, true, true, false] rfl rfl (by kernel_rfl) (by decide) (fun K hK => ?_)
          refine goes_ Try.func13 (by kernel_rfl) rfl #[.agg #[.slice Ao13 t366.length co13, .slice Ao16 t369.length co16, .int .i64 t372, .int .i64 t373], .agg #[.slice Ao57 t385.length co57, .slice Ao58 t388.length co58, .int .i64 t391, .int .i64 t392]] (by rfl) rfl rfl (by (try simp only [List.map_toArray, List.map_cons, List.map_nil]); first | done | rfl | (simp only [List.length_drop, List.length_take]; rfl)) ?_
          with_reducible refine (laws_jtDisk.calls kj4 _ _ t366 _ _ t369 t372 t373 _ _ t385 _ _ t388 t391 t392 t393 _ ?side1 ?side2 ?side3 ?side4 ?side5 ?side6 ?side7 ?side8 A54.out).mono ?_
          (case side1 => repeat (first | exact (Kd.zN HO_375000.out).2.2 | (with_reducible refine Kd.qX ?_ _) | (with_reducible refine Kd.qY ?_ _) | (with_reducible refine Kd.zC ?_)))
          (case side2 => exact (Kd.zN HO_375000.out).2.1)
          (case side3 => repeat (first | exact (Kd.qT HO_375001.out).2.2 | (with_reducible refine Kd.qX ?_ _) | (with_reducible refine Kd.qY ?_ _) | (with_reducible refine Kd.zC ?_)))
          (case side4 => exact (Kd.qT HO_375001.out).2.1)
          (case side5 => repeat (first | exact (Kd.qT HO387.out).2.2 | (with_reducible refine Kd.qX ?_ _) | (with_reducible refine Kd.qY ?_ _) | (with_reducible refine Kd.zC ?_)))
          (case side6 => exact (Kd.qT HO387.out).2.1)
          (case side7 => repeat (first | exact (Kd.qT HO390.out).2.2 | (with_reducible refine Kd.qX ?_ _) | (with_reducible refine Kd.qY ?_ _) | (with_reducible refine Kd.zC ?_)))
          (case side8 => exact (Kd.qT HO390.out).2.1)
          rintro e w59 ⟨rfl, hb⟩
          refine ⟨_, rfl, ?_⟩
          have n0_ := Aside0.mk (Kd.zU (qw_ HO_366000.out) hb)
          have n1_ := Aside0.mk (Kd.qZ (rw_ HO_366001.out) hb)
          have n2_ := Aside0.mk (Kd.zU (qw_ HO_375000.out) hb)
          have n3_ := Aside0.mk (Kd.qZ (rw_ HO_375001.out) hb)
          have n4_ := Aside0.mk (Kd.qZ (rw_ HO387.out) hb)
          have n5_ := Aside0.mk (Kd.qZ (rw_ HO390.out) hb)
          have n6_ := Aside0.mk (qJ (g := gb365) (o := .cells #[.slice Ao8 t355.length co8, .slice Ao10 t358.length co10, .int .i64 t361, .int .i64 t362] 26 (0, 0)) (bw_ BK365.out) hb)
          have n7_ := Aside0.mk (qJ (g := gb374) (o := .cells #[.slice Ao13 t366.length co13, .slice Ao16 t369.length co16, .int .i64 t372, .int .i64 t373] 26 (0, 0)) (bw_ BK374.out) hb)
          have n8_ := Aside0.mk (qL (by repeat (first | (with_reducible first | exact HB.out | apply qF | apply qB | apply qE | refine qD ?_ GE365.out | refine qD ?_ GE374.out) | exact HB.out)) hb)
          clear HO_366000
          clear HO_366001
          clear HO_375000
          clear HO_375001
          clear HO387
          clear HO390
          clear BK365
          clear BK374
          clear HB
          have HO_366000 := n0_
          have HO_366001 := n1_
          have HO_375000 := n2_
          have HO_375001 := n3_
          have HO387 := n4_
          have HO390 := n5_
          have BK365 := n6_
          have BK374 := n7_
          have HB := n8_
          clear n0_ n1_ n2_ n3_ n4_ n5_ n6_ n7_ n8_
          (try clear hb)
          (try clear hb2)
          (try clear hk)
          (try clear hi)
          refine hK.out _ _ ⟨(qA BK374.out 0).trans rfl, (qA BK374.out 1).trans rfl, (qA BK374.out 2).trans rfl, (qA BK374.out 3).trans rfl, (qA BK365.out 0).trans rfl, (qA BK365.out 1).trans rfl, (qA BK365.out 2).trans rfl, (qA BK365.out 3).trans rfl⟩ (fun hHeld => ?_)
          clear hK K
          refine norm_ (a' := ?_) ?_ ?_
          rotate_left
          · show Act.put _ (some 55) _ = _
            simp only [Act.put, List.setIfInBounds_toArray, List.set_cons_zero, List.set_cons_succ, i64_w, i32_w]
            rfl
          refine pure_ (i := 6) (N := some 2) (v := ?_) (a' := ?_) #[true, true, true, true, true, true, true] rfl rfl (by kernel_rfl) (fun _ _ _ h => h) (Or.inl ⟨by rfl, ?_⟩) ?_ ?_
          rotate_left
          · intro w'
            go_simp
            with_reducible rfl
          rotate_left
          · simp only [Act.put, List.setIfInBounds_toArray, List.set_cons_zero, List.set_cons_succ, i64_w, i32_w]
            rfl
          refine done_ (by kernel_rfl) ?_
          try go_wp2
          go_ret
          exact ⟨by first | rfl | (simp [errW_none, errW_some] <;> rfl) | (simp [*, errW_none, errW_some] <;> rfl), by repeat (first | (with_reducible first | exact HB.out | apply qF | apply qB | apply qE | refine qD ?_ GE365.out | refine qD ?_ GE374.out) | exact HB.out)⟩
        · replace c52 := Bool.eq_false_iff.mpr c52
          subst c52
          have H1 : (laws_FnDiskLeft.l0 kj4 t364 0 t366 t369 t372 t373) = some true := by rw [if_neg (show ¬ (false = true) by decide)] at H; exact H
          clear H
          have H := H1
          clear H1
          have H' := Aside0.mk H
          clear H
          go_wp2
          go_loopg [7] kj4 (fun kq v7 w' => ∃ (x7_2 : Int) (x375000_2 : List ByteArray) (x375001_2 : List (S70)) (x375002_2 : Int) (x375003_2 : Int) (u375000 : Value) (u375001 : Value), v7 = .int .i64 x7_2 ∧ Aside0 (laws_FnDiskLeft.l0 kq t364 x7_2 x375000_2 x375001_2 x375002_2 x375003_2 = some true) ∧ Aside0 (kq ≤ kj4) ∧ Aside0 (Kd.Q Kd.string 9 w' w.heap.size (fun k_ => some k_ ≠ (u375000 : Value).ownBlock) (.slice Ao8 t355.length co8) t355) ∧ Aside0 (Kd.R k70 70 w' w.heap.size (fun k_ => some k_ ≠ (u375001 : Value).ownBlock) (.slice Ao10 t358.length co10) t358) ∧ Aside0 (Kd.Q Kd.string 9 w' w.heap.size (fun k_ => some k_ ≠ ((.slice Ao8 t355.length co8) : Value).ownBlock) u375000 x375000_2) ∧ Aside0 (Kd.R k70 70 w' w.heap.size (fun k_ => some k_ ≠ ((.slice Ao10 t358.length co10) : Value).ownBlock) u375001 x375001_2) ∧ Aside0 (w'.heap[gb365]? = some (.cells #[(.slice Ao8 t355.length co8), (.slice Ao10 t358.length co10), .int .i64 t361, .int .i64 t362] 26 (0, 0))) ∧ Aside0 (w'.heap[gb374]? = some (.cells #[u375000, u375001, .int .i64 x375002_2, .int .i64 x375003_2] 26 (0, 0))) ∧ Aside0 (Below w.heap.size w w'))
          case atStart => exact ⟨(0), (t366), (t369), (t372), (t373), (.slice Ao13 t366.length co13), (.slice Ao16 t369.length co16), (by first | rfl | (simp; done) | (simp [*]; done)), H', ⟨Nat.le_refl _⟩, ⟨by (with_reducible repeat (first | apply Kd.xA | apply Kd.xB | apply Kd.zW)); exact HO_366000.out⟩, ⟨by (with_reducible repeat (first | apply Kd.zI | apply Kd.zH | apply Kd.zD)); exact HO_366001.out⟩, ⟨by (with_reducible repeat (first | apply Kd.xA | apply Kd.xB | apply Kd.zW)); exact HO_375000.out⟩, ⟨by (with_reducible repeat (first | apply Kd.zI | apply Kd.zH | apply Kd.zD)); exact HO_375001.out⟩, ⟨by (with_reducible repeat (first | refine qH ?_ _ | refine qI ?_ | refine qG ?_ _)); exact BK365.out⟩, ⟨by (with_reducible repeat (first | refine qH ?_ _ | refine qI ?_ | refine qG ?_ _)); exact BK374.out⟩, ⟨by repeat (first | (with_reducible first | exact HB.out | apply qF | apply qB | apply qE | refine qD ?_ GE365.out | refine qD ?_ GE374.out) | exact HB.out)⟩⟩
          case round =>
            clear H'
            try clear c1
            try clear c2
            try clear p2
            try clear c5
            try clear c13
            try clear c14
            try clear c15
            try clear c19
            try clear c21
            try clear c52
            try clear p2
            obtain ⟨x7_2, x375000_2, x375001_2, x375002_2, x375003_2, u375000, u375001, rfl, HA, HK2, HO_366000, HO_366001, HO_375000, HO_375001, BK365, BK374, HB⟩ := hrel
            cases gk with
            | zero => exact absurd HA.out (by simp [laws_FnDiskLeft.l0])
            | succ k2 =>
              have H := HA.out
              clear HA
              simp only [laws_FnDiskLeft.l0] at H
              by_cases c60 : x7_2 < t364
              · rw [if_pos c60] at H
                have c60b0 : decide (x7_2 < t364) = true := decide_eq_true c60
                clear c60
                replace H := Option.bind_eq_some_iff.mp H
                obtain ⟨⟨t394, t397, t400, t401⟩, A610, H⟩ := H
                replace H : (if t401 = (wrap64 ((wrap64 (t364 - x7_2)) - 1)) then (if (t397.length : Int) > 0 then (some false) else (laws_FnDiskLeft.l0 k2 t364 (wrap64 (x7_2 + 1)) t394 t397 t400 t401)) else (some false)) = some true := H
                have A61 := Aside0.mk A610
                clear A610
                by_cases c62 : t401 = (wrap64 ((wrap64 (t364 - x7_2)) - 1))
                · rw [if_pos c62] at H
                  have c62b0 : (t401 == (wrap64 ((wrap64 (t364 - x7_2)) - 1))) = true := beq_iff_eq.mpr c62
                  have c62b1 : (t401 != (wrap64 ((wrap64 (t364 - x7_2)) - 1))) = false := bne_eq_false_iff_eq.mpr c62
                  clear c62
                  by_cases c63 : (t397.length : Int) > 0
                  · rw [if_pos c63] at H
                    have c63b0 : decide (0 < (t397.length : Int)) = true := decide_eq_true c63
                    have c63b1 : decide (0 < t397.length) = true := decide_eq_true (by omega)
                    clear c63
                    exact absurd H (by simp)
                  · rw [if_neg c63] at H
                    have c63b0 : decide (0 < (t397.length : Int)) = false := decide_eq_false c63
                    have c63b1 : decide (0 < t397.length) = false := decide_eq_false (by omega)
                    clear c63
                    have H' := Aside0.mk H
                    clear H
                    have hnb64 := NB374_365.out
                    have hnc64 := NB365_374.out
                    have hcz65_0 : wr.cell? ⟨gb374, 0, none⟩ = some (u375000) := (qA BK374.out 0).trans rfl
                    have hcz65_1 : wr.cell? ⟨gb374, 1, none⟩ = some (u375001) := (qA BK374.out 1).trans rfl
                    have hcz65_2 : wr.cell? ⟨gb374, 2, none⟩ = some (.int .i64 x375002_2) := (qA BK374.out 2).trans rfl
                    have hcz65_3 : wr.cell? ⟨gb374, 3, none⟩ = some (.int .i64 x375003_2) := (qA BK374.out 3).trans rfl
                    have hfz65_0 := qC BK374.out 0
                    have hfz65_1 := qC BK374.out 1
                    have hfz65_2 := qC BK374.out 2
                    have hfz65_3 := qC BK374.out 3
                    obtain ⟨Ao66, co66, eo66, _⟩ := Kd.Q_slice HO_375000.out
                    subst eo66
                    obtain ⟨Ao67, co67, eo67⟩ := Kd.zE HO_375001.out
                    subst eo67
                    go_wp2_with (first | ((with_reducible refine qV (f := 20) rfl ?_); refine zL (some 62) rfl rfl Try.func20 (by kernel_rfl) rfl #[.agg #[.slice Ao66 x375000_2.length co66, .slice Ao67 x375001_2.length co67, .int .i64 x375002_2, .int .i64 x375003_2]] rfl (by (try simp only [List.map_toArray, List.map_cons, List.map_nil]); first | done | rfl | (simp only [List.length_drop, List.length_take]; rfl)) ?_; (with_reducible refine (impl_DiskSync.calls _ _ x375000_2 _ _ x375001_2 x375002_2 x375003_2 t394 t397 t400 t401 _ ?side1 ?side2 ?side3 ?side4 A61.out).mono ?_); (case side1 => repeat (first | exact (Kd.zN HO_375000.out).2.2 | (with_reducible refine Kd.qX ?_ _) | (with_reducible refine Kd.qY ?_ _) | (with_reducible refine Kd.zC ?_))); (case side2 => exact (Kd.zN HO_375000.out).2.1); (case side3 => repeat (first | exact (Kd.qT HO_375001.out).2.2 | (with_reducible refine Kd.qX ?_ _) | (with_reducible refine Kd.qY ?_ _) | (with_reducible refine Kd.zC ?_))); (case side4 => exact (Kd.qT HO_375001.out).2.1); rintro e w68 ⟨v395, v398, rfl, ho0, ho1, hb⟩; refine ⟨_, rfl, ?_⟩; have n0_ := Aside0.mk (Kd.xD (qw_ HO_366000.out) (Kd.zP ho0) hb); have n1_ := Aside0.mk (Kd.zO (rw_ HO_366001.out) (Kd.zP ho1) hb); have n2_ := Aside0.mk (Kd.xD (qw_ HO_375000.out) (Kd.zP ho0) hb); have n3_ := Aside0.mk (Kd.zO (rw_ HO_375001.out) (Kd.zP ho1) hb); have n4_ := Aside0.mk (Kd.zJ (Kd.zR (Kd.zR ho0 (Kd.Q_lt (qw_ HO_366000.out))) (Kd.Q_lt (qw_ HO_375000.out))) (qK (by repeat (first | (with_reducible first | exact HB.out | apply qF | apply qB | apply qE | refine qD ?_ GE365.out | refine qD ?_ GE374.out) | exact HB.out)))); have n5_ := Aside0.mk (Kd.zJ (Kd.zR (Kd.zR ho1 (Kd.R_lt (rw_ HO_366001.out))) (Kd.R_lt (rw_ HO_375001.out))) (qK (by repeat (first | (with_reducible first | exact HB.out | apply qF | apply qB | apply qE | refine qD ?_ GE365.out | refine qD ?_ GE374.out) | exact HB.out)))); have n6_ := Aside0.mk (qJ (g := gb365) (o := .cells #[.slice Ao8 t355.length co8, .slice Ao10 t358.length co10, .int .i64 t361, .int .i64 t362] 26 (0, 0)) (bw_ BK365.out) hb); have n7_ := Aside0.mk (qJ (g := gb374) (o := .cells #[.slice Ao66 x375000_2.length co66, .slice Ao67 x375001_2.length co67, .int .i64 x375002_2, .int .i64 x375003_2] 26 (0, 0)) (bw_ BK374.out) hb); have n8_ := Aside0.mk (qL (by repeat (first | (with_reducible first | exact HB.out | apply qF | apply qB | apply qE | refine qD ?_ GE365.out | refine qD ?_ GE374.out) | exact HB.out)) hb); clear HO_366000; clear HO_366001; clear HO_375000; clear HO_375001; clear BK365; clear BK374; clear HB; have HO_366000 := n0_; have HO_366001 := n1_; have HO_375000 := n2_; have HO_375001 := n3_; have HO396 := n4_; have HO399 := n5_; have BK365 := n6_; have BK374 := n7_; have HB := n8_; clear n0_ n1_ n2_ n3_ n4_ n5_ n6_ n7_ n8_; (try clear hb); (try clear hb2); (try clear hk); (try clear hi); (try clear ho0); (try clear ho1)) | ((with_reducible refine zA (N := 8) rfl ?_); refine qU ?hg (N := 8) ?hd (cs := #[.slice none 0 0, .slice none 0 0, .int .i64 0, .int .i64 0]) (t := 26) ?hr ?_; (case hd => rfl); (case hg => rfl); (case hr => first | (go_simp; done) | (go_simp; rfl)); intro gb402 hg w69 hbox hb; have n0_ := Aside0.mk (Kd.zU (qw_ HO_366000.out) hb); have n1_ := Aside0.mk (Kd.qZ (rw_ HO_366001.out) hb); have n2_ := Aside0.mk (Kd.zU (qw_ HO_375000.out) hb); have n3_ := Aside0.mk (Kd.qZ (rw_ HO_375001.out) hb); have n4_ := Aside0.mk (Kd.qZ (rw_ HO396.out) hb); have n5_ := Aside0.mk (Kd.qZ (rw_ HO399.out) hb); have n6_ := Aside0.mk (qJ (g := gb365) (o := .cells #[.slice Ao8 t355.length co8, .slice Ao10 t358.length co10, .int .i64 t361, .int .i64 t362] 26 (0, 0)) (bw_ BK365.out) hb); have n7_ := Aside0.mk (qJ (g := gb374) (o := .cells #[.slice Ao66 x375000_2.length co66, .slice Ao67 x375001_2.length co67, .int .i64 x375002_2, .int .i64 x375003_2] 26 (0, 0)) (bw_ BK374.out) hb); have n8_ := Aside0.mk (qL (by repeat (first | (with_reducible first | exact HB.out | apply qF | apply qB | apply qE | refine qD ?_ GE365.out | refine qD ?_ GE374.out) | exact HB.out)) hb); have n9_ := Aside0.mk (hbox); have n10_ := Aside0.mk ((by rw [hg]; exact (qK (by repeat (first | (with_reducible first | exact HB.out | apply qF | apply qB | apply qE | refine qD ?_ GE365.out | refine qD ?_ GE374.out) | exact HB.out))) : w.heap.size ≤ gb402)); have n11_ := Aside0.mk ((by rw [hg]; exact (qK (by repeat (first | (with_reducible first | exact HB.out | apply qF | apply qB | apply qE | refine qD ?_ GE365.out | refine qD ?_ GE374.out) | exact HB.out))) : w.heap.size ≤ gb402)); have n12_ := Aside0.mk ((by rw [hg]; exact Nat.ne_of_lt (zF (g := gb365) (o := .cells #[.slice Ao8 t355.length co8, .slice Ao10 t358.length co10, .int .i64 t361, .int .i64 t362] 26 (0, 0)) (bw_ BK365.out)) : gb365 ≠ gb402)); have n13_ := Aside0.mk ((by rw [hg]; exact Nat.ne_of_gt (zF (g := gb365) (o := .cells #[.slice Ao8 t355.length co8, .slice Ao10 t358.length co10, .int .i64 t361, .int .i64 t362] 26 (0, 0)) (bw_ BK365.out)) : gb402 ≠ gb365)); have n14_ := Aside0.mk ((by rw [hg]; exact Nat.ne_of_lt (zF (g := gb374) (o := .cells #[.slice Ao66 x375000_2.length co66, .slice Ao67 x375001_2.length co67, .int .i64 x375002_2, .int .i64 x375003_2] 26 (0, 0)) (bw_ BK374.out)) : gb374 ≠ gb402)); have n15_ := Aside0.mk ((by rw [hg]; exact Nat.ne_of_gt (zF (g := gb374) (o := .cells #[.slice Ao66 x375000_2.length co66, .slice Ao67 x375001_2.length co67, .int .i64 x375002_2, .int .i64 x375003_2] 26 (0, 0)) (bw_ BK374.out)) : gb402 ≠ gb374)); clear HO_366000; clear HO_366001; clear HO_375000; clear HO_375001; clear HO396; clear HO399; clear BK365; clear BK374; clear HB; have HO_366000 := n0_; have HO_366001 := n1_; have HO_375000 := n2_; have HO_375001 := n3_; have HO396 := n4_; have HO399 := n5_; have BK365 := n6_; have BK374 := n7_; have HB := n8_; have BK402 := n9_; have GW402 := n10_; have GE402 := n11_; have NB365_402 := n12_; have NB402_365 := n13_; have NB374_402 := n14_; have NB402_374 := n15_; clear n0_ n1_ n2_ n3_ n4_ n5_ n6_ n7_ n8_ n9_ n10_ n11_ n12_ n13_ n14_ n15_; clear hb hbox hg; obtain ⟨Ao70, co70, eo70⟩ := Kd.zE HO396.out; subst eo70; have hnb71 := NB402_365.out; have hnc71 := NB365_402.out; have hnb72 := NB402_374.out; have hnc72 := NB374_402.out; have hcz73_0 : w69.cell? ⟨gb402, 0, none⟩ = some (.slice none 0 0) := (qA BK402.out 0).trans rfl; have hcz73_1 : w69.cell? ⟨gb402, 1, none⟩ = some (.slice none 0 0) := (qA BK402.out 1).trans rfl; have hcz73_2 : w69.cell? ⟨gb402, 2, none⟩ = some (.int .i64 0) := (qA BK402.out 2).trans rfl; have hcz73_3 : w69.cell? ⟨gb402, 3, none⟩ = some (.int .i64 0) := (qA BK402.out 3).trans rfl; have hfz73_0 := qC BK402.out 0; have hfz73_1 := qC BK402.out 1; have hfz73_2 := qC BK402.out 2; have hfz73_3 := qC BK402.out 3; obtain ⟨Ao74, co74, eo74⟩ := Kd.zE HO399.out; subst eo74; have hcz75_0 : w69.cell? ⟨gb374, 0, none⟩ = some (.slice Ao66 x375000_2.length co66) := (qA BK374.out 0).trans rfl; have hcz75_1 : w69.cell? ⟨gb374, 1, none⟩ = some (.slice Ao67 x375001_2.length co67) := (qA BK374.out 1).trans rfl; have hcz75_2 : w69.cell? ⟨gb374, 2, none⟩ = some (.int .i64 x375002_2) := (qA BK374.out 2).trans rfl; have hcz75_3 : w69.cell? ⟨gb374, 3, none⟩ = some (.int .i64 x375003_2) := (qA BK374.out 3).trans rfl; have hfz75_0 := qC BK374.out 0; have hfz75_1 := qC BK374.out 1; have hfz75_2 := qC BK374.out 2; have hfz75_3 := qC BK374.out 3))
                    go_roundg k2
                    case measure => have := HJ4.out; have := HK2.out; omega
                    case rel => exact ⟨(wrap64 (x7_2 + 1)), (t394), (t397), (t400), (t401), (.slice Ao70 t394.length co70), (.slice Ao74 t397.length co74), (by first | rfl | (simp; done) | (simp [*]; done)), H', ⟨by have := HJ4.out; have := HK2.out; omega⟩, ⟨by (with_reducible repeat (first | apply Kd.xA | apply Kd.xB | apply Kd.zW)); exact Kd.zX (Kd.Q_far (p := ⟨gb374, 3, none⟩) (Kd.Q_far (p := ⟨gb374, 2, none⟩) (Kd.Q_far (p := ⟨gb374, 1, none⟩) (Kd.Q_far (p := ⟨gb374, 0, none⟩) (Kd.Q_far (p := ⟨gb402, 3, none⟩) (Kd.Q_far (p := ⟨gb402, 2, none⟩) (Kd.Q_far (p := ⟨gb402, 1, none⟩) (Kd.Q_far (p := ⟨gb402, 0, none⟩) (Kd.xC (Kd.xC HO_366000.out BK402.out (by decide)) BK374.out (by decide)) (fun _ hk => hk.1.2) (.slice Ao70 t394.length co70)) (fun _ hk => hk.1.2) (.slice Ao74 t397.length co74)) (fun _ hk => hk.1.2) (.int .i64 t400)) (fun _ hk => hk.1.2) (.int .i64 t401)) (fun _ hk => hk.2) (.slice Ao70 t394.length co70)) (fun _ hk => hk.2) (.slice Ao74 t397.length co74)) (fun _ hk => hk.2) (.int .i64 t400)) (fun _ hk => hk.2) (.int .i64 t401)) (fun _ hk => hk.1.1.2)⟩, ⟨by (with_reducible repeat (first | apply Kd.zI | apply Kd.zH | apply Kd.zD)); exact Kd.qS (Kd.R_far (p := ⟨gb374, 3, none⟩) (Kd.R_far (p := ⟨gb374, 2, none⟩) (Kd.R_far (p := ⟨gb374, 1, none⟩) (Kd.R_far (p := ⟨gb374, 0, none⟩) (Kd.R_far (p := ⟨gb402, 3, none⟩) (Kd.R_far (p := ⟨gb402, 2, none⟩) (Kd.R_far (p := ⟨gb402, 1, none⟩) (Kd.R_far (p := ⟨gb402, 0, none⟩) (Kd.qW (Kd.qW HO_366001.out BK402.out (by decide)) BK374.out (by decide)) (fun _ hk => hk.1.2) (.slice Ao70 t394.length co70)) (fun _ hk => hk.1.2) (.slice Ao74 t397.length co74)) (fun _ hk => hk.1.2) (.int .i64 t400)) (fun _ hk => hk.1.2) (.int .i64 t401)) (fun _ hk => hk.2) (.slice Ao70 t394.length co70)) (fun _ hk => hk.2) (.slice Ao74 t397.length co74)) (fun _ hk => hk.2) (.int .i64 t400)) (fun _ hk => hk.2) (.int .i64 t401)) (fun _ hk => hk.1.1.2)⟩, ⟨Kd.Q_of_R (rw_ (Kd.qS (Kd.R_far (p := ⟨gb374, 3, none⟩) (Kd.R_far (p := ⟨gb374, 2, none⟩) (Kd.R_far (p := ⟨gb374, 1, none⟩) (Kd.R_far (p := ⟨gb374, 0, none⟩) (Kd.R_far (p := ⟨gb402, 3, none⟩) (Kd.R_far (p := ⟨gb402, 2, none⟩) (Kd.R_far (p := ⟨gb402, 1, none⟩) (Kd.R_far (p := ⟨gb402, 0, none⟩) (Kd.qW (Kd.qW HO396.out BK402.out (by decide)) BK374.out (by decide)) (fun _ hk => hk.1.2) (.slice Ao70 t394.length co70)) (fun _ hk => hk.1.2) (.slice Ao74 t397.length co74)) (fun _ hk => hk.1.2) (.int .i64 t400)) (fun _ hk => hk.1.2) (.int .i64 t401)) (fun _ hk => hk.2) (.slice Ao70 t394.length co70)) (fun _ hk => hk.2) (.slice Ao74 t397.length co74)) (fun _ hk => hk.2) (.int .i64 t400)) (fun _ hk => hk.2) (.int .i64 t401)) (fun _ hk => hk.1.1.1.2)))⟩, ⟨by (with_reducible repeat (first | apply Kd.zI | apply Kd.zH | apply Kd.zD)); exact Kd.qS (Kd.R_far (p := ⟨gb374, 3, none⟩) (Kd.R_far (p := ⟨gb374, 2, none⟩) (Kd.R_far (p := ⟨gb374, 1, none⟩) (Kd.R_far (p := ⟨gb374, 0, none⟩) (Kd.R_far (p := ⟨gb402, 3, none⟩) (Kd.R_far (p := ⟨gb402, 2, none⟩) (Kd.R_far (p := ⟨gb402, 1, none⟩) (Kd.R_far (p := ⟨gb402, 0, none⟩) (Kd.qW (Kd.qW HO399.out BK402.out (by decide)) BK374.out (by decide)) (fun _ hk => hk.1.2) (.slice Ao70 t394.length co70)) (fun _ hk => hk.1.2) (.slice Ao74 t397.length co74)) (fun _ hk => hk.1.2) (.int .i64 t400)) (fun _ hk => hk.1.2) (.int .i64 t401)) (fun _ hk => hk.2) (.slice Ao70 t394.length co70)) (fun _ hk => hk.2) (.slice Ao74 t397.length co74)) (fun _ hk => hk.2) (.int .i64 t400)) (fun _ hk => hk.2) (.int .i64 t401)) (fun _ hk => hk.1.1.1.2)⟩, ⟨by (with_reducible repeat (first | refine qH ?_ _ | refine qI ?_ | refine qG ?_ _)); refine qR ?_ NB365_374.out _; (with_reducible repeat (first | refine qH ?_ _ | refine qI ?_ | refine qG ?_ _)); refine qR ?_ NB365_374.out _; (with_reducible repeat (first | refine qH ?_ _ | refine qI ?_ | refine qG ?_ _)); refine qR ?_ NB365_374.out _; (with_reducible repeat (first | refine qH ?_ _ | refine qI ?_ | refine qG ?_ _)); refine qR ?_ NB365_374.out _; (with_reducible repeat (first | refine qH ?_ _ | refine qI ?_ | refine qG ?_ _)); refine qR ?_ NB365_402.out _; (with_reducible repeat (first | refine qH ?_ _ | refine qI ?_ | refine qG ?_ _)); refine qR ?_ NB365_402.out _; (with_reducible repeat (first | refine qH ?_ _ | refine qI ?_ | refine qG ?_ _)); refine qR ?_ NB365_402.out _; (with_reducible repeat (first | refine qH ?_ _ | refine qI ?_ | refine qG ?_ _)); refine qR ?_ NB365_402.out _; (with_reducible repeat (first | refine qH ?_ _ | refine qI ?_ | refine qG ?_ _)); exact BK365.out⟩, ⟨by (with_reducible repeat (first | refine qH ?_ _ | refine qI ?_ | refine qG ?_ _)); refine qO (cs := #[.slice Ao70 t394.length co70, .slice Ao74 t397.length co74, .int .i64 t400, .int .i64 x375003_2]) ?_ 3 _ rfl; (with_reducible repeat (first | refine qH ?_ _ | refine qI ?_ | refine qG ?_ _)); refine qO (cs := #[.slice Ao70 t394.length co70, .slice Ao74 t397.length co74, .int .i64 x375002_2, .int .i64 x375003_2]) ?_ 2 _ rfl; (with_reducible repeat (first | refine qH ?_ _ | refine qI ?_ | refine qG ?_ _)); refine qO (cs := #[.slice Ao70 t394.length co70, .slice Ao67 x375001_2.length co67, .int .i64 x375002_2, .int .i64 x375003_2]) ?_ 1 _ rfl; (with_reducible repeat (first | refine qH ?_ _ | refine qI ?_ | refine qG ?_ _)); refine qO (cs := #[.slice Ao66 x375000_2.length co66, .slice Ao67 x375001_2.length co67, .int .i64 x375002_2, .int .i64 x375003_2]) ?_ 0 _ rfl; (with_reducible repeat (first | refine qH ?_ _ | refine qI ?_ | refine qG ?_ _)); refine qR ?_ NB374_402.out _; (with_reducible repeat (first | refine qH ?_ _ | refine qI ?_ | refine qG ?_ _)); refine qR ?_ NB374_402.out _; (with_reducible repeat (first | refine qH ?_ _ | refine qI ?_ | refine qG ?_ _)); refine qR ?_ NB374_402.out _; (with_reducible repeat (first | refine qH ?_ _ | refine qI ?_ | refine qG ?_ _)); refine qR ?_ NB374_402.out _; (with_reducible repeat (first | refine qH ?_ _ | refine qI ?_ | refine qG ?_ _)); exact BK374.out⟩, ⟨by repeat (first | (with_reducible first | exact HB.out | apply qF | apply qB | apply qE | refine qD ?_ GE365.out | refine qD ?_ GE374.out | refine qD ?_ GE402.out) | exact HB.out)⟩⟩
                · rw [if_neg c62] at H
                  have c62b0 : (t401 == (wrap64 ((wrap64 (t364 - x7_2)) - 1))) = false := beq_eq_false_iff_ne.mpr c62
                  have c62b1 : (t401 != (wrap64 ((wrap64 (t364 - x7_2)) - 1))) = true := bne_iff_ne.mpr c62
                  exact absurd H (by simp)
              · rw [if_neg c60] at H
                have c60b0 : decide (x7_2 < t364) = false := decide_eq_false c60
                clear c60
                replace H := Option.bind_eq_some_iff.mp H
                obtain ⟨⟨t403, t406, t409, t410, t411⟩, A760, H⟩ := H
                replace H : (if t411 = true then ((laws_jtDisk.f k2 t403 t406 t409 t410 x375000_2 x375001_2 x375002_2 x375003_2).bind fun t413 => (if t413 = true then ((impl_DiskSync.f x375000_2 x375001_2 x375002_2 x375003_2).bind fun bt414 => ((laws_jtDisk.f k2 bt414.1 bt414.2.1 bt414.2.2.1 bt414.2.2.2 x375000_2 x375001_2 x375002_2 x375003_2).bind fun t422 => (some t422))) else (some false))) else (some false)) = some true := H
                have A76 := Aside0.mk A760
                clear A760
                by_cases c77 : t411 = true
                · subst c77
                  have H1 : ((laws_jtDisk.f k2 t403 t406 t409 t410 x375000_2 x375001_2 x375002_2 x375003_2).bind fun t413 => (if t413 = true then ((impl_DiskSync.f x375000_2 x375001_2 x375002_2 x375003_2).bind fun bt414 => ((laws_jtDisk.f k2 bt414.1 bt414.2.1 bt414.2.2.1 bt414.2.2.2 x375000_2 x375001_2 x375002_2 x375003_2).bind fun t422 => (some t422))) else (some false))) = some true := by rw [if_pos rfl] at H; exact H
                  clear H
                  have H := H1
                  clear H1
                  replace H := Option.bind_eq_some_iff.mp H
                  obtain ⟨t413, A780, H⟩ := H
                  replace H : (if t413 = true then ((impl_DiskSync.f x375000_2 x375001_2 x375002_2 x375003_2).bind fun bt414 => ((laws_jtDisk.f k2 bt414.1 bt414.2.1 bt414.2.2.1 bt414.2.2.2 x375000_2 x375001_2 x375002_2 x375003_2).bind fun t422 => (some t422))) else (some false)) = some true := H
                  have A78 := Aside0.mk A780
                  clear A780
                  by_cases c79 : t413 = true
                  · subst c79
                    have H1 : ((impl_DiskSync.f x375000_2 x375001_2 x375002_2 x375003_2).bind fun bt414 => ((laws_jtDisk.f k2 bt414.1 bt414.2.1 bt414.2.2.1 bt414.2.2.2 x375000_2 x375001_2 x375002_2 x375003_2).bind fun t422 => (some t422))) = some true := by rw [if_pos rfl] at H; exact H
                    clear H
                    have H := H1
                    clear H1
                    replace H := Option.bind_eq_some_iff.mp H
                    obtain ⟨⟨t414, t417, t420, t421⟩, A800, H⟩ := H
                    replace H : ((laws_jtDisk.f k2 t414 t417 t420 t421 x375000_2 x375001_2 x375002_2 x375003_2).bind fun t422 => (some t422)) = some true := H
                    have A80 := Aside0.mk A800
                    clear A800
                    replace H := Option.bind_eq_some_iff.mp H
                    obtain ⟨t422, A810, H⟩ := H
                    replace H : (some t422) = some true := H
                    have A81 := Aside0.mk A810
                    clear A810
                    have HT_ : t422 = true := Option.some.inj H
                    clear H
                    have hnb82 := NB374_365.out
                    have hnc82 := NB365_374.out
                    have hcz83_0 : wr.cell? ⟨gb374, 0, none⟩ = some (u375000) := (qA BK374.out 0).trans rfl
                    have hcz83_1 : wr.cell? ⟨gb374, 1, none⟩ = some (u375001) := (qA BK374.out 1).trans rfl
                    have hcz83_2 : wr.cell? ⟨gb374, 2, none⟩ = some (.int .i64 x375002_2) := (qA BK374.out 2).trans rfl
                    have hcz83_3 : wr.cell? ⟨gb374, 3, none⟩ = some (.int .i64 x375003_2) := (qA BK374.out 3).trans rfl
                    have hfz83_0 := qC BK374.out 0
                    have hfz83_1 := qC BK374.out 1
                    have hfz83_2 := qC BK374.out 2
                    have hfz83_3 := qC BK374.out 3
                    obtain ⟨Ao84, co84, eo84, _⟩ := Kd.Q_slice HO_375000.out
                    subst eo84
                    obtain ⟨Ao85, co85, eo85⟩ := Kd.zE HO_375001.out
                    subst eo85
                    try go_wp2_with (first | ((with_reducible refine qV (f := 16) rfl ?_); refine zL (some 79) rfl rfl Try.func16 (by kernel_rfl) rfl #[.agg #[.slice Ao84 x375000_2.length co84, .slice Ao85 x375001_2.length co85, .int .i64 x375002_2, .int .i64 x375003_2], .int .i64 3, .string (⟨#[108, 97, 116, 101]⟩ : ByteArray)] rfl (by (try simp only [List.map_toArray, List.map_cons, List.map_nil]); first | done | rfl | (simp only [List.length_drop, List.length_take]; rfl)) ?_; (with_reducible refine (impl_DiskWrite.calls _ _ x375000_2 _ _ x375001_2 x375002_2 x375003_2 3 (⟨#[108, 97, 116, 101]⟩ : ByteArray) t403 t406 t409 t410 true _ ?side1 ?side2 ?side3 ?side4 A76.out).mono ?_); (case side1 => repeat (first | exact (Kd.zN HO_375000.out).2.2 | (with_reducible refine Kd.qX ?_ _) | (with_reducible refine Kd.qY ?_ _) | (with_reducible refine Kd.zC ?_))); (case side2 => exact (Kd.zN HO_375000.out).2.1); (case side3 => repeat (first | exact (Kd.qT HO_375001.out).2.2 | (with_reducible refine Kd.qX ?_ _) | (with_reducible refine Kd.qY ?_ _) | (with_reducible refine Kd.zC ?_))); (case side4 => exact (Kd.qT HO_375001.out).2.1); rintro e w86 ⟨v404, v407, rfl, ho0, ho1, hb⟩; refine ⟨_, rfl, ?_⟩; have n0_ := Aside0.mk (Kd.xD (qw_ HO_366000.out) (Kd.zP ho0) hb); have n1_ := Aside0.mk (Kd.zO (rw_ HO_366001.out) (Kd.zP ho1) hb); have n2_ := Aside0.mk (Kd.xD (qw_ HO_375000.out) (Kd.zP ho0) hb); have n3_ := Aside0.mk (Kd.zO (rw_ HO_375001.out) (Kd.zP ho1) hb); have n4_ := Aside0.mk (Kd.zJ (Kd.zR (Kd.zR ho0 (Kd.Q_lt (qw_ HO_366000.out))) (Kd.Q_lt (qw_ HO_375000.out))) (qK (by repeat (first | (with_reducible first | exact HB.out | apply qF | apply qB | apply qE | refine qD ?_ GE365.out | refine qD ?_ GE374.out) | exact HB.out)))); have n5_ := Aside0.mk (Kd.zJ (Kd.zR (Kd.zR ho1 (Kd.R_lt (rw_ HO_366001.out))) (Kd.R_lt (rw_ HO_375001.out))) (qK (by repeat (first | (with_reducible first | exact HB.out | apply qF | apply qB | apply qE | refine qD ?_ GE365.out | refine qD ?_ GE374.out) | exact HB.out)))); have n6_ := Aside0.mk (qJ (g := gb365) (o := .cells #[.slice Ao8 t355.length co8, .slice Ao10 t358.length co10, .int .i64 t361, .int .i64 t362] 26 (0, 0)) (bw_ BK365.out) hb); have n7_ := Aside0.mk (qJ (g := gb374) (o := .cells #[.slice Ao84 x375000_2.length co84, .slice Ao85 x375001_2.length co85, .int .i64 x375002_2, .int .i64 x375003_2] 26 (0, 0)) (bw_ BK374.out) hb); have n8_ := Aside0.mk (qL (by repeat (first | (with_reducible first | exact HB.out | apply qF | apply qB | apply qE | refine qD ?_ GE365.out | refine qD ?_ GE374.out) | exact HB.out)) hb); clear HO_366000; clear HO_366001; clear HO_375000; clear HO_375001; clear BK365; clear BK374; clear HB; have HO_366000 := n0_; have HO_366001 := n1_; have HO_375000 := n2_; have HO_375001 := n3_; have HO405 := n4_; have HO408 := n5_; have BK365 := n6_; have BK374 := n7_; have HB := n8_; clear n0_ n1_ n2_ n3_ n4_ n5_ n6_ n7_ n8_; (try clear hb); (try clear hb2); (try clear hk); (try clear hi); (try clear ho0); (try clear ho1)) | ((with_reducible refine zA (N := 9) rfl ?_); refine qU ?hg (N := 9) ?hd (cs := #[.slice none 0 0, .slice none 0 0, .int .i64 0, .int .i64 0]) (t := 26) ?hr ?_; (case hd => rfl); (case hg => rfl); (case hr => first | (go_simp; done) | (go_simp; rfl)); intro gb412 hg w87 hbox hb; have n0_ := Aside0.mk (Kd.zU (qw_ HO_366000.out) hb); have n1_ := Aside0.mk (Kd.qZ (rw_ HO_366001.out) hb); have n2_ := Aside0.mk (Kd.zU (qw_ HO_375000.out) hb); have n3_ := Aside0.mk (Kd.qZ (rw_ HO_375001.out) hb); have n4_ := Aside0.mk (Kd.qZ (rw_ HO405.out) hb); have n5_ := Aside0.mk (Kd.qZ (rw_ HO408.out) hb); have n6_ := Aside0.mk (qJ (g := gb365) (o := .cells #[.slice Ao8 t355.length co8, .slice Ao10 t358.length co10, .int .i64 t361, .int .i64 t362] 26 (0, 0)) (bw_ BK365.out) hb); have n7_ := Aside0.mk (qJ (g := gb374) (o := .cells #[.slice Ao84 x375000_2.length co84, .slice Ao85 x375001_2.length co85, .int .i64 x375002_2, .int .i64 x375003_2] 26 (0, 0)) (bw_ BK374.out) hb); have n8_ := Aside0.mk (qL (by repeat (first | (with_reducible first | exact HB.out | apply qF | apply qB | apply qE | refine qD ?_ GE365.out | refine qD ?_ GE374.out) | exact HB.out)) hb); have n9_ := Aside0.mk (hbox); have n10_ := Aside0.mk ((by rw [hg]; exact (qK (by repeat (first | (with_reducible first | exact HB.out | apply qF | apply qB | apply qE | refine qD ?_ GE365.out | refine qD ?_ GE374.out) | exact HB.out))) : w.heap.size ≤ gb412)); have n11_ := Aside0.mk ((by rw [hg]; exact (qK (by repeat (first | (with_reducible first | exact HB.out | apply qF | apply qB | apply qE | refine qD ?_ GE365.out | refine qD ?_ GE374.out) | exact HB.out))) : w.heap.size ≤ gb412)); have n12_ := Aside0.mk ((by rw [hg]; exact Nat.ne_of_lt (zF (g := gb365) (o := .cells #[.slice Ao8 t355.length co8, .slice Ao10 t358.length co10, .int .i64 t361, .int .i64 t362] 26 (0, 0)) (bw_ BK365.out)) : gb365 ≠ gb412)); have n13_ := Aside0.mk ((by rw [hg]; exact Nat.ne_of_gt (zF (g := gb365) (o := .cells #[.slice Ao8 t355.length co8, .slice Ao10 t358.length co10, .int .i64 t361, .int .i64 t362] 26 (0, 0)) (bw_ BK365.out)) : gb412 ≠ gb365)); have n14_ := Aside0.mk ((by rw [hg]; exact Nat.ne_of_lt (zF (g := gb374) (o := .cells #[.slice Ao84 x375000_2.length co84, .slice Ao85 x375001_2.length co85, .int .i64 x375002_2, .int .i64 x375003_2] 26 (0, 0)) (bw_ BK374.out)) : gb374 ≠ gb412)); have n15_ := Aside0.mk ((by rw [hg]; exact Nat.ne_of_gt (zF (g := gb374) (o := .cells #[.slice Ao84 x375000_2.length co84, .slice Ao85 x375001_2.length co85, .int .i64 x375002_2, .int .i64 x375003_2] 26 (0, 0)) (bw_ BK374.out)) : gb412 ≠ gb374)); clear HO_366000; clear HO_366001; clear HO_375000; clear HO_375001; clear HO405; clear HO408; clear BK365; clear BK374; clear HB; have HO_366000 := n0_; have HO_366001 := n1_; have HO_375000 := n2_; have HO_375001 := n3_; have HO405 := n4_; have HO408 := n5_; have BK365 := n6_; have BK374 := n7_; have HB := n8_; have BK412 := n9_; have GW412 := n10_; have GE412 := n11_; have NB365_412 := n12_; have NB412_365 := n13_; have NB374_412 := n14_; have NB412_374 := n15_; clear n0_ n1_ n2_ n3_ n4_ n5_ n6_ n7_ n8_ n9_ n10_ n11_ n12_ n13_ n14_ n15_; clear hb hbox hg; obtain ⟨Ao88, co88, eo88⟩ := Kd.zE HO405.out; subst eo88; have hnb89 := NB412_365.out; have hnc89 := NB365_412.out; have hnb90 := NB412_374.out; have hnc90 := NB374_412.out; have hcz91_0 : w87.cell? ⟨gb412, 0, none⟩ = some (.slice none 0 0) := (qA BK412.out 0).trans rfl; have hcz91_1 : w87.cell? ⟨gb412, 1, none⟩ = some (.slice none 0 0) := (qA BK412.out 1).trans rfl; have hcz91_2 : w87.cell? ⟨gb412, 2, none⟩ = some (.int .i64 0) := (qA BK412.out 2).trans rfl; have hcz91_3 : w87.cell? ⟨gb412, 3, none⟩ = some (.int .i64 0) := (qA BK412.out 3).trans rfl; have hfz91_0 := qC BK412.out 0; have hfz91_1 := qC BK412.out 1; have hfz91_2 := qC BK412.out 2; have hfz91_3 := qC BK412.out 3; obtain ⟨Ao92, co92, eo92⟩ := Kd.zE HO408.out; subst eo92))
                    have n0_ : Aside0 (Kd.Q Kd.string 9 ((((w87.setCell ⟨gb412, 0, none⟩ (.slice Ao88 t403.length co88)).setCell ⟨gb412, 1, none⟩ (.slice Ao92 t406.length co92)).setCell ⟨gb412, 2, none⟩ (.int .i64 t409)).setCell ⟨gb412, 3, none⟩ (.int .i64 t410)) w.heap.size (fun k_ => some k_ ≠ (.slice Ao84 x375000_2.length co84 : Value).ownBlock ∧ some k_ ≠ (.slice Ao88 t403.length co88 : Value).ownBlock) (.slice Ao8 t355.length co8) t355) := ⟨by (with_reducible repeat (first | apply Kd.xA | apply Kd.xB | apply Kd.zW)); exact Kd.zX (Kd.Q_far (p := ⟨gb412, 3, none⟩) (Kd.Q_far (p := ⟨gb412, 2, none⟩) (Kd.Q_far (p := ⟨gb412, 1, none⟩) (Kd.Q_far (p := ⟨gb412, 0, none⟩) (Kd.xC HO_366000.out BK412.out (by decide)) (fun _ hk => hk.2) (.slice Ao88 t403.length co88)) (fun _ hk => hk.2) (.slice Ao92 t406.length co92)) (fun _ hk => hk.2) (.int .i64 t409)) (fun _ hk => hk.2) (.int .i64 t410)) (fun _ hk => ⟨hk.1.1, hk.1.2⟩)⟩
                    have n1_ : Aside0 (Kd.R k70 70 ((((w87.setCell ⟨gb412, 0, none⟩ (.slice Ao88 t403.length co88)).setCell ⟨gb412, 1, none⟩ (.slice Ao92 t406.length co92)).setCell ⟨gb412, 2, none⟩ (.int .i64 t409)).setCell ⟨gb412, 3, none⟩ (.int .i64 t410)) w.heap.size (fun k_ => some k_ ≠ (.slice Ao85 x375001_2.length co85 : Value).ownBlock ∧ some k_ ≠ (.slice Ao92 t406.length co92 : Value).ownBlock) (.slice Ao10 t358.length co10) t358) := ⟨by (with_reducible repeat (first | apply Kd.zI | apply Kd.zH | apply Kd.zD)); exact Kd.qS (Kd.R_far (p := ⟨gb412, 3, none⟩) (Kd.R_far (p := ⟨gb412, 2, none⟩) (Kd.R_far (p := ⟨gb412, 1, none⟩) (Kd.R_far (p := ⟨gb412, 0, none⟩) (Kd.qW HO_366001.out BK412.out (by decide)) (fun _ hk => hk.2) (.slice Ao88 t403.length co88)) (fun _ hk => hk.2) (.slice Ao92 t406.length co92)) (fun _ hk => hk.2) (.int .i64 t409)) (fun _ hk => hk.2) (.int .i64 t410)) (fun _ hk => ⟨hk.1.1, hk.1.2⟩)⟩
                    have n2_ : Aside0 (Kd.Q Kd.string 9 ((((w87.setCell ⟨gb412, 0, none⟩ (.slice Ao88 t403.length co88)).setCell ⟨gb412, 1, none⟩ (.slice Ao92 t406.length co92)).setCell ⟨gb412, 2, none⟩ (.int .i64 t409)).setCell ⟨gb412, 3, none⟩ (.int .i64 t410)) w.heap.size (fun k_ => some k_ ≠ (.slice Ao8 t355.length co8 : Value).ownBlock ∧ some k_ ≠ (.slice Ao88 t403.length co88 : Value).ownBlock) (.slice Ao84 x375000_2.length co84) x375000_2) := ⟨by (with_reducible repeat (first | apply Kd.xA | apply Kd.xB | apply Kd.zW)); exact Kd.zX (Kd.Q_far (p := ⟨gb412, 3, none⟩) (Kd.Q_far (p := ⟨gb412, 2, none⟩) (Kd.Q_far (p := ⟨gb412, 1, none⟩) (Kd.Q_far (p := ⟨gb412, 0, none⟩) (Kd.xC HO_375000.out BK412.out (by decide)) (fun _ hk => hk.2) (.slice Ao88 t403.length co88)) (fun _ hk => hk.2) (.slice Ao92 t406.length co92)) (fun _ hk => hk.2) (.int .i64 t409)) (fun _ hk => hk.2) (.int .i64 t410)) (fun _ hk => ⟨hk.1.1, hk.1.2⟩)⟩
                    have n3_ : Aside0 (Kd.R k70 70 ((((w87.setCell ⟨gb412, 0, none⟩ (.slice Ao88 t403.length co88)).setCell ⟨gb412, 1, none⟩ (.slice Ao92 t406.length co92)).setCell ⟨gb412, 2, none⟩ (.int .i64 t409)).setCell ⟨gb412, 3, none⟩ (.int .i64 t410)) w.heap.size (fun k_ => some k_ ≠ (.slice Ao10 t358.length co10 : Value).ownBlock ∧ some k_ ≠ (.slice Ao92 t406.length co92 : Value).ownBlock) (.slice Ao85 x375001_2.length co85) x375001_2) := ⟨by (with_reducible repeat (first | apply Kd.zI | apply Kd.zH | apply Kd.zD)); exact Kd.qS (Kd.R_far (p := ⟨gb412, 3, none⟩) (Kd.R_far (p := ⟨gb412, 2, none⟩) (Kd.R_far (p := ⟨gb412, 1, none⟩) (Kd.R_far (p := ⟨gb412, 0, none⟩) (Kd.qW HO_375001.out BK412.out (by decide)) (fun _ hk => hk.2) (.slice Ao88 t403.length co88)) (fun _ hk => hk.2) (.slice Ao92 t406.length co92)) (fun _ hk => hk.2) (.int .i64 t409)) (fun _ hk => hk.2) (.int .i64 t410)) (fun _ hk => ⟨hk.1.1, hk.1.2⟩)⟩
                    have n4_ : Aside0 (Kd.R Kd.string 9 ((((w87.setCell ⟨gb412, 0, none⟩ (.slice Ao88 t403.length co88)).setCell ⟨gb412, 1, none⟩ (.slice Ao92 t406.length co92)).setCell ⟨gb412, 2, none⟩ (.int .i64 t409)).setCell ⟨gb412, 3, none⟩ (.int .i64 t410)) w.heap.size (fun k_ => some k_ ≠ (.slice Ao8 t355.length co8 : Value).ownBlock ∧ some k_ ≠ (.slice Ao84 x375000_2.length co84 : Value).ownBlock) (.slice Ao88 t403.length co88) t403) := ⟨by (with_reducible repeat (first | apply Kd.zI | apply Kd.zH | apply Kd.zD)); exact Kd.qS (Kd.R_far (p := ⟨gb412, 3, none⟩) (Kd.R_far (p := ⟨gb412, 2, none⟩) (Kd.R_far (p := ⟨gb412, 1, none⟩) (Kd.R_far (p := ⟨gb412, 0, none⟩) (Kd.qW HO405.out BK412.out (by decide)) (fun _ hk => hk.2) (.slice Ao88 t403.length co88)) (fun _ hk => hk.2) (.slice Ao92 t406.length co92)) (fun _ hk => hk.2) (.int .i64 t409)) (fun _ hk => hk.2) (.int .i64 t410)) (fun _ hk => ⟨hk.1.1.2, hk.1.2⟩)⟩
                    have n5_ : Aside0 (Kd.R k70 70 ((((w87.setCell ⟨gb412, 0, none⟩ (.slice Ao88 t403.length co88)).setCell ⟨gb412, 1, none⟩ (.slice Ao92 t406.length co92)).setCell ⟨gb412, 2, none⟩ (.int .i64 t409)).setCell ⟨gb412, 3, none⟩ (.int .i64 t410)) w.heap.size (fun k_ => some k_ ≠ (.slice Ao10 t358.length co10 : Value).ownBlock ∧ some k_ ≠ (.slice Ao85 x375001_2.length co85 : Value).ownBlock) (.slice Ao92 t406.length co92) t406) := ⟨by (with_reducible repeat (first | apply Kd.zI | apply Kd.zH | apply Kd.zD)); exact Kd.qS (Kd.R_far (p := ⟨gb412, 3, none⟩) (Kd.R_far (p := ⟨gb412, 2, none⟩) (Kd.R_far (p := ⟨gb412, 1, none⟩) (Kd.R_far (p := ⟨gb412, 0, none⟩) (Kd.qW HO408.out BK412.out (by decide)) (fun _ hk => hk.2) (.slice Ao88 t403.length co88)) (fun _ hk => hk.2) (.slice Ao92 t406.length co92)) (fun _ hk => hk.2) (.int .i64 t409)) (fun _ hk => hk.2) (.int .i64 t410)) (fun _ hk => ⟨hk.1.1.2, hk.1.2⟩)⟩
                    have n6_ : Aside0 (((((w87.setCell ⟨gb412, 0, none⟩ (.slice Ao88 t403.length co88)).setCell ⟨gb412, 1, none⟩ (.slice Ao92 t406.length co92)).setCell ⟨gb412, 2, none⟩ (.int .i64 t409)).setCell ⟨gb412, 3, none⟩ (.int .i64 t410)).heap[gb365]? = some (.cells #[.slice Ao8 t355.length co8, .slice Ao10 t358.length co10, .int .i64 t361, .int .i64 t362] 26 (0, 0))) := ⟨by (with_reducible repeat (first | refine qH ?_ _ | refine qI ?_ | refine qG ?_ _)); refine qR ?_ NB365_412.out _; (with_reducible repeat (first | refine qH ?_ _ | refine qI ?_ | refine qG ?_ _)); refine qR ?_ NB365_412.out _; (with_reducible repeat (first | refine qH ?_ _ | refine qI ?_ | refine qG ?_ _)); refine qR ?_ NB365_412.out _; (with_reducible repeat (first | refine qH ?_ _ | refine qI ?_ | refine qG ?_ _)); refine qR ?_ NB365_412.out _; (with_reducible repeat (first | refine qH ?_ _ | refine qI ?_ | refine qG ?_ _)); exact BK365.out⟩
                    have n7_ : Aside0 (((((w87.setCell ⟨gb412, 0, none⟩ (.slice Ao88 t403.length co88)).setCell ⟨gb412, 1, none⟩ (.slice Ao92 t406.length co92)).setCell ⟨gb412, 2, none⟩ (.int .i64 t409)).setCell ⟨gb412, 3, none⟩ (.int .i64 t410)).heap[gb374]? = some (.cells #[.slice Ao84 x375000_2.length co84, .slice Ao85 x375001_2.length co85, .int .i64 x375002_2, .int .i64 x375003_2] 26 (0, 0))) := ⟨by (with_reducible repeat (first | refine qH ?_ _ | refine qI ?_ | refine qG ?_ _)); refine qR ?_ NB374_412.out _; (with_reducible repeat (first | refine qH ?_ _ | refine qI ?_ | refine qG ?_ _)); refine qR ?_ NB374_412.out _; (with_reducible repeat (first | refine qH ?_ _ | refine qI ?_ | refine qG ?_ _)); refine qR ?_ NB374_412.out _; (with_reducible repeat (first | refine qH ?_ _ | refine qI ?_ | refine qG ?_ _)); refine qR ?_ NB374_412.out _; (with_reducible repeat (first | refine qH ?_ _ | refine qI ?_ | refine qG ?_ _)); exact BK374.out⟩
                    have n8_ : Aside0 (((((w87.setCell ⟨gb412, 0, none⟩ (.slice Ao88 t403.length co88)).setCell ⟨gb412, 1, none⟩ (.slice Ao92 t406.length co92)).setCell ⟨gb412, 2, none⟩ (.int .i64 t409)).setCell ⟨gb412, 3, none⟩ (.int .i64 t410)).heap[gb412]? = some (.cells #[.slice Ao88 t403.length co88, .slice Ao92 t406.length co92, .int .i64 t409, .int .i64 t410] 26 (0, 0))) := ⟨by (with_reducible repeat (first | refine qH ?_ _ | refine qI ?_ | refine qG ?_ _)); refine qO (cs := #[.slice Ao88 t403.length co88, .slice Ao92 t406.length co92, .int .i64 t409, .int .i64 0]) ?_ 3 _ rfl; (with_reducible repeat (first | refine qH ?_ _ | refine qI ?_ | refine qG ?_ _)); refine qO (cs := #[.slice Ao88 t403.length co88, .slice Ao92 t406.length co92, .int .i64 0, .int .i64 0]) ?_ 2 _ rfl; (with_reducible repeat (first | refine qH ?_ _ | refine qI ?_ | refine qG ?_ _)); refine qO (cs := #[.slice Ao88 t403.length co88, .slice none 0 0, .int .i64 0, .int .i64 0]) ?_ 1 _ rfl; (with_reducible repeat (first | refine qH ?_ _ | refine qI ?_ | refine qG ?_ _)); refine qO (cs := #[.slice none 0 0, .slice none 0 0, .int .i64 0, .int .i64 0]) ?_ 0 _ rfl; (with_reducible repeat (first | refine qH ?_ _ | refine qI ?_ | refine qG ?_ _)); exact BK412.out⟩
                    have n9_ : Aside0 (Below w.heap.size w ((((w87.setCell ⟨gb412, 0, none⟩ (.slice Ao88 t403.length co88)).setCell ⟨gb412, 1, none⟩ (.slice Ao92 t406.length co92)).setCell ⟨gb412, 2, none⟩ (.int .i64 t409)).setCell ⟨gb412, 3, none⟩ (.int .i64 t410))) := ⟨by repeat (first | (with_reducible first | exact HB.out | apply qF | apply qB | apply qE | refine qD ?_ GE365.out | refine qD ?_ GE374.out | refine qD ?_ GE412.out) | exact HB.out)⟩
                    (try clear HO_366000)
                    (try clear HO_366001)
                    (try clear HO_375000)
                    (try clear HO_375001)
                    (try clear HO405)
                    (try clear HO408)
                    (try clear BK365)
                    (try clear BK374)
                    (try clear BK412)
                    (try clear HB)
                    generalize ((((w87.setCell ⟨gb412, 0, none⟩ (.slice Ao88 t403.length co88)).setCell ⟨gb412, 1, none⟩ (.slice Ao92 t406.length co92)).setCell ⟨gb412, 2, none⟩ (.int .i64 t409)).setCell ⟨gb412, 3, none⟩ (.int .i64 t410)) = w93 at n0_ n1_ n2_ n3_ n4_ n5_ n6_ n7_ n8_ n9_ ⊢
                    have HO_366000 := n0_
                    have HO_366001 := n1_
                    have HO_375000 := n2_
                    have HO_375001 := n3_
                    have HO405 := n4_
                    have HO408 := n5_
                    have BK365 := n6_
                    have BK374 := n7_
                    have BK412 := n8_
                    have HB := n9_
                    clear n0_ n1_ n2_ n3_ n4_ n5_ n6_ n7_ n8_ n9_
                    have n0_ := Aside0.mk (Kd.zW HO_366000.out)
                    have n1_ := Aside0.mk (Kd.zD HO_366001.out)
                    have n2_ := Aside0.mk (Kd.zW HO_375000.out)
                    have n3_ := Aside0.mk (Kd.zD HO_375001.out)
                    have n4_ := Aside0.mk (Kd.zD HO405.out)
                    have n5_ := Aside0.mk (Kd.zD HO408.out)
                    have n6_ := Aside0.mk (qI BK365.out)
                    have n7_ := Aside0.mk (qI BK374.out)
                    have n8_ := Aside0.mk (qI BK412.out)
                    have n9_ := Aside0.mk (qE HB.out)
                    clear HO_366000
                    clear HO_366001
                    clear HO_375000
                    clear HO_375001
                    clear HO405
                    clear HO408
                    clear BK365
                    clear BK374
                    clear BK412
                    clear HB
                    have HO_366000 := n0_
                    have HO_366001 := n1_
                    have HO_375000 := n2_
                    have HO_375001 := n3_
                    have HO405 := n4_
                    have HO408 := n5_
                    have BK365 := n6_
                    have BK374 := n7_
                    have BK412 := n8_
                    have HB := n9_
                    clear n0_ n1_ n2_ n3_ n4_ n5_ n6_ n7_ n8_ n9_
                    refine start_ (n := 13) (S := fun w' => w'.cell? ⟨gb412, 0, none⟩ = some (.slice Ao88 t403.length co88) ∧ w'.cell? ⟨gb412, 1, none⟩ = some (.slice Ao92 t406.length co92) ∧ w'.cell? ⟨gb412, 2, none⟩ = some (.int .i64 t409) ∧ w'.cell? ⟨gb412, 3, none⟩ = some (.int .i64 t410) ∧ w'.cell? ⟨gb374, 0, none⟩ = some (.slice Ao84 x375000_2.length co84) ∧ w'.cell? ⟨gb374, 1, none⟩ = some (.slice Ao85 x375001_2.length co85) ∧ w'.cell? ⟨gb374, 2, none⟩ = some (.int .i64 x375002_2) ∧ w'.cell? ⟨gb374, 3, none⟩ = some (.int .i64 x375003_2)) (ds := []) #[false, false, false, false, false, false, false, false, false, false, false, false, false] (by kernel_rfl) rfl rfl ⟨(qA BK412.out 0).trans rfl, (qA BK412.out 1).trans rfl, (qA BK412.out 2).trans rfl, (qA BK412.out 3).trans rfl, (qA BK374.out 0).trans rfl, (qA BK374.out 1).trans rfl, (qA BK374.out 2).trans rfl, (qA BK374.out 3).trans rfl⟩ (fun hHeld => ?_); refine xH laws_FnDiskLeft.tab15 laws_FnDiskLeft.bits15 (fun HT_ HW_ => ?_)
                    generalize w93.drew = w94 at HO_366000 HO_366001 HO_375000 HO_375001 HO405 HO408 BK365 BK374 BK412 HB hHeld ⊢
                    refine pure_ (i := 0) (N := some 82) (v := ?_) (a' := ?_) #[true, false, false, false, false, false, false, false, false, false, false, false, false] rfl rfl (zB HT_.out (by kernel_rfl)) (fun _ _ _ h => h) (Or.inl ⟨by rfl, ?_⟩) ?_ ?_
                    rotate_left
                    · intro w'
                      go_simp
                      with_reducible rfl
                    rotate_left
                    · simp only [Act.put, List.setIfInBounds_toArray, List.set_cons_zero, List.set_cons_succ, i64_w, i32_w]
                      rfl
                    refine pure_ (i := 1) (N := some 83) (v := ?_) (a' := ?_) #[true, true, false, false, false, false, false, false, false, false, false, false, false] rfl rfl (zB HT_.out (by kernel_rfl)) (fun _ _ _ h => h) (Or.inl ⟨by rfl, ?_⟩) ?_ ?_
                    rotate_left
                    · intro w'
                      go_simp
                      with_reducible rfl
                    rotate_left
                    · simp only [Act.put, List.setIfInBounds_toArray, List.set_cons_zero, List.set_cons_succ, i64_w, i32_w]
                      rfl
                    refine take_ (i := 2) (N := some 84) (v := ?_) (a' := ?_) #[true, true, true, false, false, false, false, false, false, false, false, false, false] rfl rfl (zQ HT_.out HW_.out (by kernel_rfl)) (fun _ _ _ h => h) (Or.inl ⟨by rfl, ?_⟩) hHeld ?_ ?_
                    rotate_left
                    · rintro w' ⟨s0, s1, s2, s3, s4, s5, s6, s7⟩
                      go_simp
                      with_reducible rfl
                    rotate_left
                    · simp only [Act.put, List.setIfInBounds_toArray, List.set_cons_zero, List.set_cons_succ, i64_w, i32_w]
                      rfl
                    refine take_ (i := 3) (N := some 85) (v := ?_) (a' := ?_) #[true, true, true, true, false, false, false, false, false, false, false, false, false] rfl rfl (zQ HT_.out HW_.out (by kernel_rfl)) (fun _ _ _ h => h) (Or.inl ⟨by rfl, ?_⟩) hHeld ?_ ?_
                    rotate_left
                    · rintro w' ⟨s0, s1, s2, s3, s4, s5, s6, s7⟩
                      go_simp
                      with_reducible rfl
                    rotate_left
                    · simp only [Act.put, List.setIfInBounds_toArray, List.set_cons_zero, List.set_cons_succ, i64_w, i32_w]
                      rfl
                    refine one_ (i := 4) (N := some 86) #[true, true, true, true, true, false, false, false, false, false, false, false, false] rfl rfl (zT HT_.out (by kernel_rfl)) (by decide) (fun K hK => ?_)
                    refine goes_ Try.func13 (by kernel_rfl) rfl #[.agg #[.slice Ao88 t403.length co88, .slice Ao92 t406.length co92, .int .i64 t409, .int .i64 t410], .agg #[.slice Ao84 x375000_2.length co84, .slice Ao85 x375001_2.length co85, .int .i64 x375002_2, .int .i64 x375003_2]] (by rfl) rfl rfl (by (try simp only [List.map_toArray, List.map_cons, List.map_nil]); first | done | rfl | (simp only [List.length_drop, List.length_take]; rfl)) ?_
                    with_reducible refine (laws_jtDisk.calls k2 _ _ t403 _ _ t406 t409 t410 _ _ x375000_2 _ _ x375001_2 x375002_2 x375003_2 true _ ?side1 ?side2 ?side3 ?side4 ?side5 ?side6 ?side7 ?side8 A78.out).mono ?_
                    (case side1 => repeat (first | exact (Kd.qT HO405.out).2.2 | (with_reducible refine Kd.qX ?_ _) | (with_reducible refine Kd.qY ?_ _) | (with_reducible refine Kd.zC ?_)))
                    (case side2 => exact (Kd.qT HO405.out).2.1)
                    (case side3 => repeat (first | exact (Kd.qT HO408.out).2.2 | (with_reducible refine Kd.qX ?_ _) | (with_reducible refine Kd.qY ?_ _) | (with_reducible refine Kd.zC ?_)))
                    (case side4 => exact (Kd.qT HO408.out).2.1)
                    (case side5 => repeat (first | exact (Kd.zN HO_375000.out).2.2 | (with_reducible refine Kd.qX ?_ _) | (with_reducible refine Kd.qY ?_ _) | (with_reducible refine Kd.zC ?_)))
                    (case side6 => exact (Kd.zN HO_375000.out).2.1)
                    (case side7 => repeat (first | exact (Kd.qT HO_375001.out).2.2 | (with_reducible refine Kd.qX ?_ _) | (with_reducible refine Kd.qY ?_ _) | (with_reducible refine Kd.zC ?_)))
                    (case side8 => exact (Kd.qT HO_375001.out).2.1)
                    rintro e w95 ⟨rfl, hb⟩
                    refine ⟨_, rfl, ?_⟩
                    have n0_ := Aside0.mk (Kd.zU (qw_ HO_366000.out) hb)
                    have n1_ := Aside0.mk (Kd.qZ (rw_ HO_366001.out) hb)
                    have n2_ := Aside0.mk (Kd.zU (qw_ HO_375000.out) hb)
                    have n3_ := Aside0.mk (Kd.qZ (rw_ HO_375001.out) hb)
                    have n4_ := Aside0.mk (Kd.qZ (rw_ HO405.out) hb)
                    have n5_ := Aside0.mk (Kd.qZ (rw_ HO408.out) hb)
                    have n6_ := Aside0.mk (qJ (g := gb365) (o := .cells #[.slice Ao8 t355.length co8, .slice Ao10 t358.length co10, .int .i64 t361, .int .i64 t362] 26 (0, 0)) (bw_ BK365.out) hb)
                    have n7_ := Aside0.mk (qJ (g := gb374) (o := .cells #[.slice Ao84 x375000_2.length co84, .slice Ao85 x375001_2.length co85, .int .i64 x375002_2, .int .i64 x375003_2] 26 (0, 0)) (bw_ BK374.out) hb)
                    have n8_ := Aside0.mk (qJ (g := gb412) (o := .cells #[.slice Ao88 t403.length co88, .slice Ao92 t406.length co92, .int .i64 t409, .int .i64 t410] 26 (0, 0)) (bw_ BK412.out) hb)
                    have n9_ := Aside0.mk (qL (by repeat (first | (with_reducible first | exact HB.out | apply qF | apply qB | apply qE | refine qD ?_ GE365.out | refine qD ?_ GE374.out | refine qD ?_ GE412.out) | exact HB.out)) hb)
                    clear HO_366000
                    clear HO_366001
                    clear HO_375000
                    clear HO_375001
                    clear HO405
                    clear HO408
                    clear BK365
                    clear BK374
                    clear BK412
                    clear HB
                    have HO_366000 := n0_
                    have HO_366001 := n1_
                    have HO_375000 := n2_
                    have HO_375001 := n3_
                    have HO405 := n4_
                    have HO408 := n5_
                    have BK365 := n6_
                    have BK374 := n7_
                    have BK412 := n8_
                    have HB := n9_
                    clear n0_ n1_ n2_ n3_ n4_ n5_ n6_ n7_ n8_ n9_
                    (try clear hb)
                    (try clear hb2)
                    (try clear hk)
                    (try clear hi)
                    refine hK.out _ _ ⟨(qA BK412.out 0).trans rfl, (qA BK412.out 1).trans rfl, (qA BK412.out 2).trans rfl, (qA BK412.out 3).trans rfl, (qA BK374.out 0).trans rfl, (qA BK374.out 1).trans rfl, (qA BK374.out 2).trans rfl, (qA BK374.out 3).trans rfl⟩ (fun hHeld => ?_)
                    clear hK K
                    refine norm_ (a' := ?_) ?_ ?_
                    rotate_left
                    · show Act.put _ (some 86) _ = _
                      simp only [Act.put, List.setIfInBounds_toArray, List.set_cons_zero, List.set_cons_succ, i64_w, i32_w]
                      rfl
                    refine pure_ (i := 5) (N := some 87) (v := ?_) (a' := ?_) #[true, true, true, true, true, true, false, false, false, false, false, false, false] rfl rfl (zB HT_.out (by kernel_rfl)) (fun _ _ _ h => h) (Or.inl ⟨by rfl, ?_⟩) ?_ ?_
                    rotate_left
                    · intro w'
                      go_simp
                      with_reducible rfl
                    rotate_left
                    · simp only [Act.put, List.setIfInBounds_toArray, List.set_cons_zero, List.set_cons_succ, i64_w, i32_w]
                      rfl
                    refine pure_ (i := 6) (N := some 88) (v := ?_) (a' := ?_) #[true, true, true, true, true, true, true, false, false, false, false, false, false] rfl rfl (zB HT_.out (by kernel_rfl)) (fun _ _ _ h => h) (Or.inl ⟨by rfl, ?_⟩) ?_ ?_
                    rotate_left
                    · intro w'
                      go_simp
                      with_reducible rfl
                    rotate_left
                    · simp only [Act.put, List.setIfInBounds_toArray, List.set_cons_zero, List.set_cons_succ, i64_w, i32_w]
                      rfl
                    refine take_ (i := 7) (N := some 89) (v := ?_) (a' := ?_) #[true, true, true, true, true, true, true, true, false, false, false, false, false] rfl rfl (zQ HT_.out HW_.out (by kernel_rfl)) (fun _ _ _ h => h) (Or.inl ⟨by rfl, ?_⟩) hHeld ?_ ?_
                    rotate_left
                    · rintro w' ⟨s0, s1, s2, s3, s4, s5, s6, s7⟩
                      go_simp
                      with_reducible rfl
                    rotate_left
                    · simp only [Act.put, List.setIfInBounds_toArray, List.set_cons_zero, List.set_cons_succ, i64_w, i32_w]
                      rfl
                    refine take_ (i := 9) (N := some 91) (v := ?_) (a' := ?_) #[true, true, true, true, true, true, true, true, false, true, false, false, false] rfl rfl (zQ HT_.out HW_.out (by kernel_rfl)) (fun _ _ _ h => h) (Or.inl ⟨by rfl, ?_⟩) hHeld ?_ ?_
                    rotate_left
                    · rintro w' ⟨s0, s1, s2, s3, s4, s5, s6, s7⟩
                      go_simp
                      with_reducible rfl
                    rotate_left
                    · simp only [Act.put, List.setIfInBounds_toArray, List.set_cons_zero, List.set_cons_succ, i64_w, i32_w]
                      rfl
                    refine one_ (i := 8) (N := some 90) #[true, true, true, true, true, true, true, true, true, true, false, false, false] rfl rfl (zT HT_.out (by kernel_rfl)) (by decide) (fun K hK => ?_)
                    refine goes_ Try.func20 (by kernel_rfl) rfl #[.agg #[.slice Ao84 x375000_2.length co84, .slice Ao85 x375001_2.length co85, .int .i64 x375002_2, .int .i64 x375003_2]] (by rfl) rfl rfl (by (try simp only [List.map_toArray, List.map_cons, List.map_nil]); first | done | rfl | (simp only [List.length_drop, List.length_take]; rfl)) ?_
                    with_reducible refine (impl_DiskSync.calls _ _ x375000_2 _ _ x375001_2 x375002_2 x375003_2 t414 t417 t420 t421 _ ?side1 ?side2 ?side3 ?side4 A80.out).mono ?_
                    (case side1 => repeat (first | exact (Kd.zN HO_375000.out).2.2 | (with_reducible refine Kd.qX ?_ _) | (with_reducible refine Kd.qY ?_ _) | (with_reducible refine Kd.zC ?_)))
                    (case side2 => exact (Kd.zN HO_375000.out).2.1)
                    (case side3 => repeat (first | exact (Kd.qT HO_375001.out).2.2 | (with_reducible refine Kd.qX ?_ _) | (with_reducible refine Kd.qY ?_ _) | (with_reducible refine Kd.zC ?_)))
                    (case side4 => exact (Kd.qT HO_375001.out).2.1)
                    rintro e w96 ⟨v415, v418, rfl, ho0, ho1, hb⟩
                    refine ⟨_, rfl, ?_⟩
                    have n0_ := Aside0.mk (Kd.xD (qw_ HO_366000.out) (Kd.zP ho0) hb)
                    have n1_ := Aside0.mk (Kd.zO (rw_ HO_366001.out) (Kd.zP ho1) hb)
                    have n2_ := Aside0.mk (Kd.xD (qw_ HO_375000.out) (Kd.zP ho0) hb)
                    have n3_ := Aside0.mk (Kd.zO (rw_ HO_375001.out) (Kd.zP ho1) hb)
                    have n4_ := Aside0.mk (Kd.zO (rw_ HO405.out) (Kd.zP ho0) hb)
                    have n5_ := Aside0.mk (Kd.zO (rw_ HO408.out) (Kd.zP ho1) hb)
                    have n6_ := Aside0.mk (Kd.zJ (Kd.zR (Kd.zR (Kd.zR ho0 (Kd.Q_lt (qw_ HO_366000.out))) (Kd.Q_lt (qw_ HO_375000.out))) (Kd.R_lt (rw_ HO405.out))) (qK (by repeat (first | (with_reducible first | exact HB.out | apply qF | apply qB | apply qE | refine qD ?_ GE365.out | refine qD ?_ GE374.out | refine qD ?_ GE412.out) | exact HB.out))))
                    have n7_ := Aside0.mk (Kd.zJ (Kd.zR (Kd.zR (Kd.zR ho1 (Kd.R_lt (rw_ HO_366001.out))) (Kd.R_lt (rw_ HO_375001.out))) (Kd.R_lt (rw_ HO408.out))) (qK (by repeat (first | (with_reducible first | exact HB.out | apply qF | apply qB | apply qE | refine qD ?_ GE365.out | refine qD ?_ GE374.out | refine qD ?_ GE412.out) | exact HB.out))))
                    have n8_ := Aside0.mk (qJ (g := gb365) (o := .cells #[.slice Ao8 t355.length co8, .slice Ao10 t358.length co10, .int .i64 t361, .int .i64 t362] 26 (0, 0)) (bw_ BK365.out) hb)
                    have n9_ := Aside0.mk (qJ (g := gb374) (o := .cells #[.slice Ao84 x375000_2.length co84, .slice Ao85 x375001_2.length co85, .int .i64 x375002_2, .int .i64 x375003_2] 26 (0, 0)) (bw_ BK374.out) hb)
                    have n10_ := Aside0.mk (qJ (g := gb412) (o := .cells #[.slice Ao88 t403.length co88, .slice Ao92 t406.length co92, .int .i64 t409, .int .i64 t410] 26 (0, 0)) (bw_ BK412.out) hb)
                    have n11_ := Aside0.mk (qL (by repeat (first | (with_reducible first | exact HB.out | apply qF | apply qB | apply qE | refine qD ?_ GE365.out | refine qD ?_ GE374.out | refine qD ?_ GE412.out) | exact HB.out)) hb)
                    clear HO_366000
                    clear HO_366001
                    clear HO_375000
                    clear HO_375001
                    clear HO405
                    clear HO408
                    clear BK365
                    clear BK374
                    clear BK412
                    clear HB
                    have HO_366000 := n0_
                    have HO_366001 := n1_
                    have HO_375000 := n2_
                    have HO_375001 := n3_
                    have HO405 := n4_
                    have HO408 := n5_
                    have HO416 := n6_
                    have HO419 := n7_
                    have BK365 := n8_
                    have BK374 := n9_
                    have BK412 := n10_
                    have HB := n11_
                    clear n0_ n1_ n2_ n3_ n4_ n5_ n6_ n7_ n8_ n9_ n10_ n11_
                    (try clear hb)
                    (try clear hb2)
                    (try clear hk)
                    (try clear hi)
                    (try clear ho0)
                    (try clear ho1)
                    obtain ⟨Ao97, co97, eo97⟩ := Kd.zE HO416.out
                    (first | subst eo97 | (injection eo97 with f1_ f2_ f3_; have f4_ := f1_.symm; have f5_ := f3_.symm; clear f1_ f2_ f3_; subst f4_; subst f5_))
                    obtain ⟨Ao98, co98, eo98⟩ := Kd.zE HO419.out
                    (first | subst eo98 | (injection eo98 with f1_ f2_ f3_; have f4_ := f1_.symm; have f5_ := f3_.symm; clear f1_ f2_ f3_; subst f4_; subst f5_))
                    refine hK.out _ _ ⟨(qA BK412.out 0).trans rfl, (qA BK412.out 1).trans rfl, (qA BK412.out 2).trans rfl, (qA BK412.out 3).trans rfl, (qA BK374.out 0).trans rfl, (qA BK374.out 1).trans rfl, (qA BK374.out 2).trans rfl, (qA BK374.out 3).trans rfl⟩ (fun hHeld => ?_)
                    clear hK K
                    refine norm_ (a' := ?_) ?_ ?_
                    rotate_left
                    · show Act.put _ (some 90) _ = _
                      simp only [Act.put, List.setIfInBounds_toArray, List.set_cons_zero, List.set_cons_succ, i64_w, i32_w]
                      rfl
                    refine one_ (i := 10) (N := some 92) #[true, true, true, true, true, true, true, true, true, true, true, false, false] rfl rfl (zT HT_.out (by kernel_rfl)) (by decide) (fun K hK => ?_)
                    refine goes_ Try.func13 (by kernel_rfl) rfl #[.agg #[.slice Ao97 t414.length co97, .slice Ao98 t417.length co98, .int .i64 t420, .int .i64 t421], .agg #[.slice Ao84 x375000_2.length co84, .slice Ao85 x375001_2.length co85, .int .i64 x375002_2, .int .i64 x375003_2]] (by rfl) rfl rfl (by (try simp only [List.map_toArray, List.map_cons, List.map_nil]); first | done | rfl | (simp only [List.length_drop, List.length_take]; rfl)) ?_
                    with_reducible refine (laws_jtDisk.calls k2 _ _ t414 _ _ t417 t420 t421 _ _ x375000_2 _ _ x375001_2 x375002_2 x375003_2 t422 _ ?side1 ?side2 ?side3 ?side4 ?side5 ?side6 ?side7 ?side8 A81.out).mono ?_
                    (case side1 => repeat (first | exact (Kd.qT HO416.out).2.2 | (with_reducible refine Kd.qX ?_ _) | (with_reducible refine Kd.qY ?_ _) | (with_reducible refine Kd.zC ?_)))
                    (case side2 => exact (Kd.qT HO416.out).2.1)
                    (case side3 => repeat (first | exact (Kd.qT HO419.out).2.2 | (with_reducible refine Kd.qX ?_ _) | (with_reducible refine Kd.qY ?_ _) | (with_reducible refine Kd.zC ?_)))
                    (case side4 => exact (Kd.qT HO419.out).2.1)
                    (case side5 => repeat (first | exact (Kd.zN HO_375000.out).2.2 | (with_reducible refine Kd.qX ?_ _) | (with_reducible refine Kd.qY ?_ _) | (with_reducible refine Kd.zC ?_)))
                    (case side6 => exact (Kd.zN HO_375000.out).2.1)
                    (case side7 => repeat (first | exact (Kd.qT HO_375001.out).2.2 | (with_reducible refine Kd.qX ?_ _) | (with_reducible refine Kd.qY ?_ _) | (with_reducible refine Kd.zC ?_)))
                    (case side8 => exact (Kd.qT HO_375001.out).2.1)
                    rintro e w99 ⟨rfl, hb⟩
                    refine ⟨_, rfl, ?_⟩
                    have n0_ := Aside0.mk (Kd.zU (qw_ HO_366000.out) hb)
                    have n1_ := Aside0.mk (Kd.qZ (rw_ HO_366001.out) hb)
                    have n2_ := Aside0.mk (Kd.zU (qw_ HO_375000.out) hb)
                    have n3_ := Aside0.mk (Kd.qZ (rw_ HO_375001.out) hb)
                    have n4_ := Aside0.mk (Kd.qZ (rw_ HO405.out) hb)
                    have n5_ := Aside0.mk (Kd.qZ (rw_ HO408.out) hb)
                    have n6_ := Aside0.mk (Kd.qZ (rw_ HO416.out) hb)
                    have n7_ := Aside0.mk (Kd.qZ (rw_ HO419.out) hb)
                    have n8_ := Aside0.mk (qJ (g := gb365) (o := .cells #[.slice Ao8 t355.length co8, .slice Ao10 t358.length co10, .int .i64 t361, .int .i64 t362] 26 (0, 0)) (bw_ BK365.out) hb)
                    have n9_ := Aside0.mk (qJ (g := gb374) (o := .cells #[.slice Ao84 x375000_2.length co84, .slice Ao85 x375001_2.length co85, .int .i64 x375002_2, .int .i64 x375003_2] 26 (0, 0)) (bw_ BK374.out) hb)
                    have n10_ := Aside0.mk (qJ (g := gb412) (o := .cells #[.slice Ao88 t403.length co88, .slice Ao92 t406.length co92, .int .i64 t409, .int .i64 t410] 26 (0, 0)) (bw_ BK412.out) hb)
                    have n11_ := Aside0.mk (qL (by repeat (first | (with_reducible first | exact HB.out | apply qF | apply qB | apply qE | refine qD ?_ GE365.out | refine qD ?_ GE374.out | refine qD ?_ GE412.out) | exact HB.out)) hb)
                    clear HO_366000
                    clear HO_366001
                    clear HO_375000
                    clear HO_375001
                    clear HO405
                    clear HO408
                    clear HO416
                    clear HO419
                    clear BK365
                    clear BK374
                    clear BK412
                    clear HB
                    have HO_366000 := n0_
                    have HO_366001 := n1_
                    have HO_375000 := n2_
                    have HO_375001 := n3_
                    have HO405 := n4_
                    have HO408 := n5_
                    have HO416 := n6_
                    have HO419 := n7_
                    have BK365 := n8_
                    have BK374 := n9_
                    have BK412 := n10_
                    have HB := n11_
                    clear n0_ n1_ n2_ n3_ n4_ n5_ n6_ n7_ n8_ n9_ n10_ n11_
                    (try clear hb)
                    (try clear hb2)
                    (try clear hk)
                    (try clear hi)
                    refine hK.out _ _ ⟨(qA BK412.out 0).trans rfl, (qA BK412.out 1).trans rfl, (qA BK412.out 2).trans rfl, (qA BK412.out 3).trans rfl, (qA BK374.out 0).trans rfl, (qA BK374.out 1).trans rfl, (qA BK374.out 2).trans rfl, (qA BK374.out 3).trans rfl⟩ (fun hHeld => ?_)
                    clear hK K
                    refine norm_ (a' := ?_) ?_ ?_
                    rotate_left
                    · show Act.put _ (some 92) _ = _
                      simp only [Act.put, List.setIfInBounds_toArray, List.set_cons_zero, List.set_cons_succ, i64_w, i32_w]
                      rfl
                    refine pure_ (i := 11) (N := some 93) (v := ?_) (a' := ?_) #[true, true, true, true, true, true, true, true, true, true, true, true, false] rfl rfl (zB HT_.out (by kernel_rfl)) (fun _ _ _ h => h) (Or.inl ⟨by rfl, ?_⟩) ?_ ?_
                    rotate_left
                    · intro w'
                      go_simp
                      with_reducible rfl
                    rotate_left
                    · simp only [Act.put, List.setIfInBounds_toArray, List.set_cons_zero, List.set_cons_succ, i64_w, i32_w]
                      rfl
                    refine pure_ (i := 12) (N := some 2) (v := ?_) (a' := ?_) #[true, true, true, true, true, true, true, true, true, true, true, true, true] rfl rfl (zB HT_.out (by kernel_rfl)) (fun _ _ _ h => h) (Or.inl ⟨by rfl, ?_⟩) ?_ ?_
                    rotate_left
                    · intro w'
                      go_simp
                      with_reducible rfl
                    rotate_left
                    · simp only [Act.put, List.setIfInBounds_toArray, List.set_cons_zero, List.set_cons_succ, i64_w, i32_w]
                      rfl
                    refine done_ (done_of HT_.out (by kernel_rfl)) ?_
                    try go_wp2
                    go_ret
                    exact ⟨by first | rfl | (simp [errW_none, errW_some] <;> rfl) | (simp [*, errW_none, errW_some] <;> rfl), by repeat (first | (with_reducible first | exact HB.out | apply qF | apply qB | apply qE | refine qD ?_ GE365.out | refine qD ?_ GE374.out | refine qD ?_ GE412.out) | exact HB.out)⟩
                  · replace c79 := Bool.eq_false_iff.mpr c79
                    subst c79
                    have H1 : (some false) = some true := by rw [if_neg (show ¬ (false = true) by decide)] at H; exact H
                    clear H
                    have H := H1
                    clear H1
                    exact absurd H (by simp)
                · replace c77 := Bool.eq_false_iff.mpr c77
                  subst c77
                  have H1 : (some false) = some true := by rw [if_neg (show ¬ (false = true) by decide)] at H; exact H
                  clear H
                  have H := H1
                  clear H1
                  exact absurd H (by simp)

/-- THE ONE PURE STATEMENT of laws_FnDiskLeft: yours. -/
def laws_FnDiskLeft.Pure : Prop := ∀ (l0 : List Int), l0.length ≤ maxLen → l0.length * 1 ≤ 140737488351232 → (∀ x ∈ l0, (Lit.int .u8 x).wf = true) → ∃ k, laws_FnDiskLeft.f k l0 = some true
theorem laws_FnDiskLeft.walk (P : laws_FnDiskLeft.Pure) (a0 : Option Addr) (len0 cap0 : Nat) (z0 : List Int) (w : World) (w0 : (a0 = none ∧ len0 = 0 ∧ cap0 = 0 ∧ z0 = []) ∨ ∃ x, a0 = some x ∧ len0 ≤ cap0 ∧ cap0 ≤ maxLen ∧ z0.length = cap0 ∧ (∀ i, i < z0.length → w.cell? (x.add i) = some (.int .u8 (z0.getD i 0))) ∧ ∀ n ∈ z0, (Lit.int .u8 n).wf = true) (y0 : len0 * 1 ≤ 140737488351232) :
    Calls Try.prog 6 #[.slice a0 len0 cap0] w fun e w' => e = .returned (.bool true) ∧ Below w.heap.size w w' := by
  obtain ⟨l0, rfl, hr0, hm0, hw0, hc0⟩ := ReadsInt.ofRowC w0
  obtain ⟨k, h⟩ := P l0 hm0 y0 hw0
  refine (laws_FnDiskLeft.calls k _ _ l0 w (Kd.C_of_reads (d := (0 : Int)) (h1 := fun _ => rfl) hr0) hc0 h).mono ?_
  rintro e w' ⟨rfl, hd⟩
  exact ⟨rfl, hd⟩

end Go.Proofs.Ytepihebkdnmppaa.Ai
