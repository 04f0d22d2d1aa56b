/- Walks of the seat's functions, written by a program of this session (xprint.py) with the kit's printer: each call comes to just what its Lean function says. -/
import Derived.Test.YtepihebkdnmppaaCrA0
import Derived.Test.YtepihebkdnmppaaCrA6
import Derived.Test.YtepihebkdnmppaaCrA7
import Derived.Test.YtepihebkdnmppaaCrA8
namespace Go.Proofs.Ytepihebkdnmppaa.A
open Go.RowKit Go.Proofs.YtepihebkdnmppaaV.PrintWords Go.Proofs.YtepihebkdnmppaaV.PrintLast Go.Proofs.YtepihebkdnmppaaV.PrintMore
attribute [local go_sem] max2_int min2_int max_two min_two max_three min_three max_four min_four   -- for this text's walks alone
attribute [local go_sem high] World.zV
set_option linter.unusedVariables false
set_option linter.unusedSimpArgs false

/-! ### laws_FnDiskRoom: function 3 -/
mutual
def laws_FnDiskRoom.j0 : Nat → Int → Bool → List ByteArray → List (S70) → Int → Int → List ByteArray → List (S70) → Int → Int → Option (Bool)
  | 0, _, _, _, _, _, _, _, _, _, _ => none
  | k + 1, x4, x48, x366000, x366001, x366002, x366003, x375000, x375001, x375002, x375003 => if x48 = true then ((spec_DiskSet.f k x366000 x366001 x366002 x366003 x4 (-1)).bind fun bt385 => ((laws_jtDisk.f k x375000 x375001 x375002 x375003 bt385.1 bt385.2.1 bt385.2.2.1 bt385.2.2.2).bind fun t393 => (some t393))) else (laws_FnDiskRoom.l0 k x4 0 x366000 x366001 x366002 x366003 x375000 x375001 x375002 x375003)
def laws_FnDiskRoom.l0 : Nat → Int → Int → List ByteArray → List (S70) → Int → Int → List ByteArray → List (S70) → Int → Int → Option (Bool)
  | 0, _, _, _, _, _, _, _, _, _, _ => none
  | k + 1, x4, x7, x366000, x366001, x366002, x366003, x375000, x375001, x375002, x375003 => if x7 < x4 then ((impl_DiskWrite.f x375000 x375001 x375002 x375003 5 (⟨#[116, 101, 120, 116]⟩ : ByteArray)).bind fun bt394 => (if bt394.2.2.2.2 = true then (laws_FnDiskRoom.l0 k x4 (wrap64 (x7 + 1)) x366000 x366001 x366002 x366003 bt394.1 bt394.2.1 bt394.2.2.1 bt394.2.2.2.1) else (some false))) else ((impl_DiskWrite.f x375000 x375001 x375002 x375003 5 (⟨#[109, 111, 114, 101]⟩ : ByteArray)).bind fun bt404 => (if bt404.2.2.2.2 = true then (some false) else ((laws_jtDisk.f k bt404.1 bt404.2.1 bt404.2.2.1 bt404.2.2.2.1 x375000 x375001 x375002 x375003).bind fun t414 => (if t414 = true then (some ((x375001.length : Int) == (wrap64 ((x366001.length : Int) + x4)))) else (some false)))))
end
def laws_FnDiskRoom.f (k : Nat) (l0 : List Int) : Option (Bool) := if (l0.length : Int) > 1048576 then (some true) else ((spec_DrawDiskSet.f k l0).bind fun bt355 => ((impl_DiskSet.f bt355.1 bt355.2.1 bt355.2.2.1 bt355.2.2.2.1 bt355.2.2.2.2.1 (-1)).bind fun bt366 => ((spec_DiskSet.f k bt355.1 bt355.2.1 bt355.2.2.1 bt355.2.2.2.1 bt355.2.2.2.2.1 (-1)).bind fun bt375 => ((laws_jtDisk.f k bt366.1 bt366.2.1 bt366.2.2.1 bt366.2.2.2 bt375.1 bt375.2.1 bt375.2.2.1 bt375.2.2.2).bind fun t383 => (if t383 = true then ((spec_DiskOk.f k bt355.1 bt355.2.1 bt355.2.2.1 bt355.2.2.2.1).bind fun t384 => (if t384 = true then (if bt355.2.2.2.2.1 < 0 then (laws_FnDiskRoom.j0 k bt355.2.2.2.2.1 true bt355.1 bt355.2.1 bt355.2.2.1 bt355.2.2.2.1 bt366.1 bt366.2.1 bt366.2.2.1 bt366.2.2.2) else (if bt355.2.2.2.2.2 < (-5) then (laws_FnDiskRoom.j0 k bt355.2.2.2.2.1 true bt355.1 bt355.2.1 bt355.2.2.1 bt355.2.2.2.1 bt366.1 bt366.2.1 bt366.2.2.1 bt366.2.2.2) else (laws_FnDiskRoom.j0 k bt355.2.2.2.2.1 (decide ((bt355.2.1.length : Int) > 50)) bt355.1 bt355.2.1 bt355.2.2.1 bt355.2.2.2.1 bt366.1 bt366.2.1 bt366.2.2.1 bt366.2.2.2))) else (laws_FnDiskRoom.j0 k bt355.2.2.2.2.1 true bt355.1 bt355.2.1 bt355.2.2.1 bt355.2.2.2.1 bt366.1 bt366.2.1 bt366.2.2.1 bt366.2.2.2))) else (laws_FnDiskRoom.j0 k bt355.2.2.2.2.1 true bt355.1 bt355.2.1 bt355.2.2.1 bt355.2.2.2.1 bt366.1 bt366.2.1 bt366.2.2.1 bt366.2.2.2))))))
theorem laws_FnDiskRoom.mono_l : ∀ k, (∀ y0 y1 y2 y3 y4 y5 y6 y7 y8 y9, LeO (laws_FnDiskRoom.j0 k y0 y1 y2 y3 y4 y5 y6 y7 y8 y9) (laws_FnDiskRoom.j0 (k + 1) y0 y1 y2 y3 y4 y5 y6 y7 y8 y9)) ∧ (∀ y0 y1 y2 y3 y4 y5 y6 y7 y8 y9, LeO (laws_FnDiskRoom.l0 k y0 y1 y2 y3 y4 y5 y6 y7 y8 y9) (laws_FnDiskRoom.l0 (k + 1) y0 y1 y2 y3 y4 y5 y6 y7 y8 y9))
  | 0 => ⟨fun _ _ _ _ _ _ _ _ _ _ r h => by simp [laws_FnDiskRoom.j0] at h, fun _ _ _ _ _ _ _ _ _ _ r h => by simp [laws_FnDiskRoom.l0] at h⟩
  | k + 1 => by
    obtain ⟨ih0, ih1⟩ := laws_FnDiskRoom.mono_l k
    refine ⟨?_, ?_⟩
    · intro y0 y1 y2 y3 y4 y5 y6 y7 y8 y9
      unfold laws_FnDiskRoom.j0
      repeat' first
      | (with_reducible exact ih0 _ _ _ _ _ _ _ _ _ _)
      | (with_reducible exact ih1 _ _ _ _ _ _ _ _ _ _)
      | (with_reducible exact laws_jtDisk.mono _ _ _ _ _ _ _ _ _)
      | (with_reducible exact spec_DiskOk.mono _ _ _ _ _)
      | (with_reducible exact spec_DiskSet.mono _ _ _ _ _ _ _)
      | (with_reducible exact spec_DrawDiskSet.mono _ _)
      | (with_reducible exact LeO.refl _)
      | (with_reducible exact LeO.none _)
      | (with_reducible refine LeO.ite ?_ ?_)
      | (with_reducible refine LeO.bind ?_ (fun _ => ?_))
      | exact ih0 _ _ _ _ _ _ _ _ _ _
      | exact ih1 _ _ _ _ _ _ _ _ _ _
      | exact laws_jtDisk.mono _ _ _ _ _ _ _ _ _
      | exact spec_DiskOk.mono _ _ _ _ _
      | exact spec_DiskSet.mono _ _ _ _ _ _ _
      | exact spec_DrawDiskSet.mono _ _
      | exact LeO.none _
      | refine LeO.ite ?_ ?_
      | refine LeO.bind ?_ (fun _ => ?_)
    · intro y0 y1 y2 y3 y4 y5 y6 y7 y8 y9
      unfold laws_FnDiskRoom.l0
      repeat' first
      | (with_reducible exact ih0 _ _ _ _ _ _ _ _ _ _)
      | (with_reducible exact ih1 _ _ _ _ _ _ _ _ _ _)
      | (with_reducible exact laws_jtDisk.mono _ _ _ _ _ _ _ _ _)
      | (with_reducible exact spec_DiskOk.mono _ _ _ _ _)
      | (with_reducible exact spec_DiskSet.mono _ _ _ _ _ _ _)
      | (with_reducible exact spec_DrawDiskSet.mono _ _)
      | (with_reducible exact LeO.refl _)
      | (with_reducible exact LeO.none _)
      | (with_reducible refine LeO.ite ?_ ?_)
      | (with_reducible refine LeO.bind ?_ (fun _ => ?_))
      | exact ih0 _ _ _ _ _ _ _ _ _ _
      | exact ih1 _ _ _ _ _ _ _ _ _ _
      | exact laws_jtDisk.mono _ _ _ _ _ _ _ _ _
      | exact spec_DiskOk.mono _ _ _ _ _
      | exact spec_DiskSet.mono _ _ _ _ _ _ _
      | exact spec_DrawDiskSet.mono _ _
      | exact LeO.none _
      | refine LeO.ite ?_ ?_
      | refine LeO.bind ?_ (fun _ => ?_)
theorem laws_FnDiskRoom.mono : ∀ a0 k, LeO (laws_FnDiskRoom.f k a0) (laws_FnDiskRoom.f (k + 1) a0) := by
  intro a0 k
  obtain ⟨ih0, ih1⟩ := laws_FnDiskRoom.mono_l k
  unfold laws_FnDiskRoom.f
  repeat' first
      | (with_reducible exact ih0 _ _ _ _ _ _ _ _ _ _)
      | (with_reducible exact ih1 _ _ _ _ _ _ _ _ _ _)
      | (with_reducible exact laws_jtDisk.mono _ _ _ _ _ _ _ _ _)
      | (with_reducible exact spec_DiskOk.mono _ _ _ _ _)
      | (with_reducible exact spec_DiskSet.mono _ _ _ _ _ _ _)
      | (with_reducible exact spec_DrawDiskSet.mono _ _)
      | (with_reducible exact LeO.refl _)
      | (with_reducible exact LeO.none _)
      | (with_reducible refine LeO.ite ?_ ?_)
      | (with_reducible refine LeO.bind ?_ (fun _ => ?_))
      | exact ih0 _ _ _ _ _ _ _ _ _ _
      | exact ih1 _ _ _ _ _ _ _ _ _ _
      | exact laws_jtDisk.mono _ _ _ _ _ _ _ _ _
      | exact spec_DiskOk.mono _ _ _ _ _
      | exact spec_DiskSet.mono _ _ _ _ _ _ _
      | exact spec_DrawDiskSet.mono _ _
      | exact LeO.none _
      | refine LeO.ite ?_ ?_
      | refine LeO.bind ?_ (fun _ => ?_)
def laws_FnDiskRoom.T5 : Bool × List (List Nat × List Nat) := (true, [([], []), ([], []), ([], []), ([1, 2], [1, 2]), ([0, 3, 3], [0, 3]), ([4], [4]), ([5, 4], [5]), ([6], [6]), ([7, 6, 6], [6, 7]), ([8, 6], [6, 8]), ([6, 9], [6, 9]), ([10, 8], [10]), ([11], [11]), ([12, 11], [11, 12]), ([11, 13], [11, 13]), ([14, 11], [14]), ([15], [15]), ([16, 15], [15, 16]), ([15, 17], [15, 17]), ([18, 15], [18]), ([19], [19]), ([20, 19], [19, 20]), ([21, 19], [19, 21]), ([22, 19], [19, 22]), ([19, 23], [19, 23])])
def laws_FnDiskRoom.B5 : List Nat := [0, 0, 0, 6, 15, 31, 63, 127, 255, 511, 1023, 2047, 4095, 8191, 16383, 32767, 65535, 131071, 262143, 524287, 1048575, 2097151, 4194303, 8388607, 16777215]
theorem laws_FnDiskRoom.tab5 : rtab .any (opsOf Try.f3 5) = laws_FnDiskRoom.T5 := by kernel_rfl
theorem laws_FnDiskRoom.bits5 : waitsOk laws_FnDiskRoom.T5.2 laws_FnDiskRoom.B5 = true := by kernel_rfl
set_option maxHeartbeats 8000000 in
set_option maxRecDepth 100000 in
theorem laws_FnDiskRoom.calls (k : Nat) (A0 : Option Addr) (c0 : Nat) (l0 : List Int) (w : World) (hr0 : Kd.C (Kd.int .u8) w A0 l0.length l0) (hc0 : l0.length ≤ c0) (h : laws_FnDiskRoom.f k l0 = some true) :
    Calls Try.prog 3 #[.slice A0 l0.length c0] w fun e w' => e = .returned (.bool true) ∧ Below w.heap.size w w' := by
  have hu26 := Try.underlying26
  have HR0 := Aside0.mk hr0
  have HC0 := Aside0.mk hc0
  clear hr0 hc0
  have HB := Aside0.mk (Below.refl w.heap.size w)
  have H : (if (l0.length : Int) > 1048576 then (some true) else ((spec_DrawDiskSet.f k l0).bind fun bt355 => ((impl_DiskSet.f bt355.1 bt355.2.1 bt355.2.2.1 bt355.2.2.2.1 bt355.2.2.2.2.1 (-1)).bind fun bt366 => ((spec_DiskSet.f k bt355.1 bt355.2.1 bt355.2.2.1 bt355.2.2.2.1 bt355.2.2.2.2.1 (-1)).bind fun bt375 => ((laws_jtDisk.f k bt366.1 bt366.2.1 bt366.2.2.1 bt366.2.2.2 bt375.1 bt375.2.1 bt375.2.2.1 bt375.2.2.2).bind fun t383 => (if t383 = true then ((spec_DiskOk.f k bt355.1 bt355.2.1 bt355.2.2.1 bt355.2.2.2.1).bind fun t384 => (if t384 = true then (if bt355.2.2.2.2.1 < 0 then (laws_FnDiskRoom.j0 k bt355.2.2.2.2.1 true bt355.1 bt355.2.1 bt355.2.2.1 bt355.2.2.2.1 bt366.1 bt366.2.1 bt366.2.2.1 bt366.2.2.2) else (if bt355.2.2.2.2.2 < (-5) then (laws_FnDiskRoom.j0 k bt355.2.2.2.2.1 true bt355.1 bt355.2.1 bt355.2.2.1 bt355.2.2.2.1 bt366.1 bt366.2.1 bt366.2.2.1 bt366.2.2.2) else (laws_FnDiskRoom.j0 k bt355.2.2.2.2.1 (decide ((bt355.2.1.length : Int) > 50)) bt355.1 bt355.2.1 bt355.2.2.1 bt355.2.2.2.1 bt366.1 bt366.2.1 bt366.2.2.1 bt366.2.2.2))) else (laws_FnDiskRoom.j0 k bt355.2.2.2.2.1 true bt355.1 bt355.2.1 bt355.2.2.1 bt355.2.2.2.1 bt366.1 bt366.2.1 bt366.2.2.1 bt366.2.2.2))) else (laws_FnDiskRoom.j0 k bt355.2.2.2.2.1 true bt355.1 bt355.2.1 bt355.2.2.1 bt355.2.2.2.1 bt366.1 bt366.2.1 bt366.2.2.1 bt366.2.2.2))))))) = some true := h
  clear h
  by_cases c2 : (l0.length : Int) > 1048576
  · rw [if_pos c2] at H
    have c2b0 : decide (1048576 < (l0.length : Int)) = true := decide_eq_true c2
    have c2b1 : decide (1048576 < l0.length) = true := decide_eq_true (by omega)
    clear c2
    have HT_ : true = true := Option.some.inj H
    clear H
    go_enter Try.func3, Try.ntmps3
    go_wp2
    go_ret
    exact ⟨by first | rfl | (simp [errW_none, errW_some] <;> rfl) | (simp [*, errW_none, errW_some] <;> rfl), by repeat (first | (with_reducible first | exact HB.out | apply qI | apply qD | apply qH) | exact HB.out)⟩
  · rw [if_neg c2] at H
    have c2b0 : decide (1048576 < (l0.length : Int)) = false := decide_eq_false c2
    have c2b1 : decide (1048576 < l0.length) = false := decide_eq_false (by omega)
    clear c2
    replace H := Option.bind_eq_some_iff.mp H
    obtain ⟨⟨t355, t358, t361, t362, t363, t364⟩, A30, H⟩ := H
    replace H : ((impl_DiskSet.f t355 t358 t361 t362 t363 (-1)).bind fun bt366 => ((spec_DiskSet.f k t355 t358 t361 t362 t363 (-1)).bind fun bt375 => ((laws_jtDisk.f k bt366.1 bt366.2.1 bt366.2.2.1 bt366.2.2.2 bt375.1 bt375.2.1 bt375.2.2.1 bt375.2.2.2).bind fun t383 => (if t383 = true then ((spec_DiskOk.f k t355 t358 t361 t362).bind fun t384 => (if t384 = true then (if t363 < 0 then (laws_FnDiskRoom.j0 k t363 true t355 t358 t361 t362 bt366.1 bt366.2.1 bt366.2.2.1 bt366.2.2.2) else (if t364 < (-5) then (laws_FnDiskRoom.j0 k t363 true t355 t358 t361 t362 bt366.1 bt366.2.1 bt366.2.2.1 bt366.2.2.2) else (laws_FnDiskRoom.j0 k t363 (decide ((t358.length : Int) > 50)) t355 t358 t361 t362 bt366.1 bt366.2.1 bt366.2.2.1 bt366.2.2.2))) else (laws_FnDiskRoom.j0 k t363 true t355 t358 t361 t362 bt366.1 bt366.2.1 bt366.2.2.1 bt366.2.2.2))) else (laws_FnDiskRoom.j0 k t363 true t355 t358 t361 t362 bt366.1 bt366.2.1 bt366.2.2.1 bt366.2.2.2))))) = some true := H
    have A3 := Aside0.mk A30
    clear A30
    replace H := Option.bind_eq_some_iff.mp H
    obtain ⟨⟨t366, t369, t372, t373⟩, A40, H⟩ := H
    replace H : ((spec_DiskSet.f k t355 t358 t361 t362 t363 (-1)).bind fun bt375 => ((laws_jtDisk.f k t366 t369 t372 t373 bt375.1 bt375.2.1 bt375.2.2.1 bt375.2.2.2).bind fun t383 => (if t383 = true then ((spec_DiskOk.f k t355 t358 t361 t362).bind fun t384 => (if t384 = true then (if t363 < 0 then (laws_FnDiskRoom.j0 k t363 true t355 t358 t361 t362 t366 t369 t372 t373) else (if t364 < (-5) then (laws_FnDiskRoom.j0 k t363 true t355 t358 t361 t362 t366 t369 t372 t373) else (laws_FnDiskRoom.j0 k t363 (decide ((t358.length : Int) > 50)) t355 t358 t361 t362 t366 t369 t372 t373))) else (laws_FnDiskRoom.j0 k t363 true t355 t358 t361 t362 t366 t369 t372 t373))) else (laws_FnDiskRoom.j0 k t363 true t355 t358 t361 t362 t366 t369 t372 t373)))) = some true := H
    have A4 := Aside0.mk A40
    clear A40
    have HC5 := Aside0.mk H
    clear H
    go_enter Try.func3, Try.ntmps3
    go_upto_region 5 with (first | ((with_reducible refine qZ (f := 11) rfl ?_); refine zO (some 17) rfl rfl Try.func11 (by kernel_rfl) rfl #[.slice A0 l0.length c0] rfl (by (try simp only [List.map_toArray, List.map_cons, List.map_nil]); first | done | rfl | (simp only [List.length_drop, List.length_take]; rfl)) ?_; (with_reducible refine (spec_DrawDiskSet.calls k _ _ l0 t355 t358 t361 t362 t363 t364 _ ?side1 ?side2 A3.out).mono ?_); (case side1 => repeat (first | exact HR0.out | (with_reducible refine Kd.zC ?_ _) | (with_reducible refine Kd.zD ?_ _) | (with_reducible refine Kd.zH ?_))); (case side2 => exact HC0.out); rintro e w6 ⟨v356, v359, rfl, ho0, ho1, hb⟩; refine ⟨_, rfl, ?_⟩; have n0_ := Aside0.mk (Kd.Q_lower ho0 (qN (by repeat (first | (with_reducible first | exact HB.out | apply qI | apply qD | apply qH) | exact HB.out)))); have n1_ := Aside0.mk (Kd.zJ ho1 (qN (by repeat (first | (with_reducible first | exact HB.out | apply qI | apply qD | apply qH) | exact HB.out)))); have n2_ := Aside0.mk (qO (by repeat (first | (with_reducible first | exact HB.out | apply qI | apply qD | apply qH) | exact HB.out)) hb); clear HB; have HO357 := n0_; have HO360 := n1_; have HB := n2_; clear n0_ n1_ n2_; (try clear hb); (try clear hb2); (try clear hk); (try clear hi); (try clear ho0); (try clear ho1)) | ((with_reducible refine zB (N := 3) rfl ?_); refine qY ?hg (N := 3) ?hd (cs := #[.slice none 0 0, .slice none 0 0, .int .i64 0, .int .i64 0]) (t := 26) ?hr ?_; (case hd => rfl); (case hg => rfl); (case hr => first | (go_simp; done) | (go_simp; rfl)); intro gb365 hg w7 hbox hb; have n0_ := Aside0.mk (Kd.zZ (by (with_reducible repeat (first | apply Kd.zL | apply Kd.zM | apply Kd.zN)); exact HO357.out) hb); have n1_ := Aside0.mk (Kd.zA (by (with_reducible repeat (first | apply Kd.qK | apply Kd.qJ | apply Kd.qL)); exact HO360.out) hb); have n2_ := Aside0.mk (qO (by repeat (first | (with_reducible first | exact HB.out | apply qI | apply qD | apply qH) | exact HB.out)) hb); have n3_ := Aside0.mk (hbox); have n4_ := Aside0.mk ((by rw [hg]; exact (qN (by repeat (first | (with_reducible first | exact HB.out | apply qI | apply qD | apply qH) | exact HB.out))) : w.heap.size ≤ gb365)); have n5_ := Aside0.mk ((by rw [hg]; exact (qN (by repeat (first | (with_reducible first | exact HB.out | apply qI | apply qD | apply qH) | exact HB.out))) : w.heap.size ≤ gb365)); clear HO357; clear HO360; clear HB; have HO357 := n0_; have HO360 := n1_; have HB := n2_; have BK365 := n3_; have GW365 := n4_; have GE365 := n5_; clear n0_ n1_ n2_ n3_ n4_ n5_; clear hb hbox hg; obtain ⟨Ao8, co8, eo8, _⟩ := Kd.Q_slice HO357.out; subst eo8; have hcz9_0 : w7.cell? ⟨gb365, 0, none⟩ = some (.slice none 0 0) := (qB BK365.out 0).trans rfl; have hcz9_1 : w7.cell? ⟨gb365, 1, none⟩ = some (.slice none 0 0) := (qB BK365.out 1).trans rfl; have hcz9_2 : w7.cell? ⟨gb365, 2, none⟩ = some (.int .i64 0) := (qB BK365.out 2).trans rfl; have hcz9_3 : w7.cell? ⟨gb365, 3, none⟩ = some (.int .i64 0) := (qB BK365.out 3).trans rfl; have hfz9_0 := qE BK365.out 0; have hfz9_1 := qE BK365.out 1; have hfz9_2 := qE BK365.out 2; have hfz9_3 := qE BK365.out 3; obtain ⟨Ao10, co10, eo10⟩ := Kd.zF HO360.out; subst eo10) | ((with_reducible refine qZ (f := 12) rfl ?_); refine zO (some 23) rfl rfl Try.func12 (by kernel_rfl) rfl #[.agg #[.slice Ao8 t355.length co8, .slice Ao10 t358.length co10, .int .i64 t361, .int .i64 t362], .int .i64 t363, .int .i64 (-1)] rfl (by (try simp only [List.map_toArray, List.map_cons, List.map_nil]); first | done | rfl | (simp only [List.length_drop, List.length_take]; rfl)) ?_; (with_reducible refine (impl_DiskSet.calls _ _ t355 _ _ t358 t361 t362 t363 (-1) t366 t369 t372 t373 _ ?side1 ?side2 ?side3 ?side4 A4.out).mono ?_); (case side1 => refine (Kd.zQ (e := 9) (base := w.heap.size) (ok := fun k_ => True) (n := t355.length) (c := co8) ?_).2.2; exact (by (with_reducible repeat (first | apply Kd.zL | apply Kd.zM | apply Kd.zN)); exact (Kd.zX (Kd.Q_far (p := ⟨gb365, 3, none⟩) (Kd.Q_far (p := ⟨gb365, 2, none⟩) (Kd.Q_far (p := ⟨gb365, 1, none⟩) (Kd.Q_far (p := ⟨gb365, 0, none⟩) (Kd.xB HO357.out BK365.out (by decide)) (fun _ hk => hk.2) (.slice Ao8 t355.length co8)) (fun _ hk => hk.2) (.slice Ao10 t358.length co10)) (fun _ hk => hk.2) (.int .i64 t361)) (fun _ hk => hk.2) (.int .i64 t362)) (fun _ h_ => h_.1)))); (case side2 => exact (Kd.zQ HO357.out).2.1); (case side3 => refine (Kd.qW (e := 70) (base := w.heap.size) (ok := fun k_ => True) (n := t358.length) (c := co10) ?_).2.2; exact (by (with_reducible repeat (first | apply Kd.qK | apply Kd.qJ | apply Kd.qL)); exact (Kd.qV (Kd.R_far (p := ⟨gb365, 3, none⟩) (Kd.R_far (p := ⟨gb365, 2, none⟩) (Kd.R_far (p := ⟨gb365, 1, none⟩) (Kd.R_far (p := ⟨gb365, 0, none⟩) (Kd.qX HO360.out BK365.out (by decide)) (fun _ hk => hk.2) (.slice Ao8 t355.length co8)) (fun _ hk => hk.2) (.slice Ao10 t358.length co10)) (fun _ hk => hk.2) (.int .i64 t361)) (fun _ hk => hk.2) (.int .i64 t362)) (fun _ h_ => h_.1)))); (case side4 => exact (Kd.qW HO360.out).2.1); rintro e w11 ⟨v367, v370, rfl, ho0, ho1, hb⟩; refine ⟨_, rfl, ?_⟩; have n0_ := Aside0.mk (Kd.xF (by (with_reducible repeat (first | apply Kd.zL | apply Kd.zM | apply Kd.zN)); exact (Kd.zX (Kd.Q_far (p := ⟨gb365, 3, none⟩) (Kd.Q_far (p := ⟨gb365, 2, none⟩) (Kd.Q_far (p := ⟨gb365, 1, none⟩) (Kd.Q_far (p := ⟨gb365, 0, none⟩) (Kd.xB HO357.out BK365.out (by decide)) (fun _ hk => hk.2) (.slice Ao8 t355.length co8)) (fun _ hk => hk.2) (.slice Ao10 t358.length co10)) (fun _ hk => hk.2) (.int .i64 t361)) (fun _ hk => hk.2) (.int .i64 t362)) (fun _ h_ => h_.1))) (Kd.zS ho0) hb); have n1_ := Aside0.mk (Kd.zR (by (with_reducible repeat (first | apply Kd.qK | apply Kd.qJ | apply Kd.qL)); exact (Kd.qV (Kd.R_far (p := ⟨gb365, 3, none⟩) (Kd.R_far (p := ⟨gb365, 2, none⟩) (Kd.R_far (p := ⟨gb365, 1, none⟩) (Kd.R_far (p := ⟨gb365, 0, none⟩) (Kd.qX HO360.out BK365.out (by decide)) (fun _ hk => hk.2) (.slice Ao8 t355.length co8)) (fun _ hk => hk.2) (.slice Ao10 t358.length co10)) (fun _ hk => hk.2) (.int .i64 t361)) (fun _ hk => hk.2) (.int .i64 t362)) (fun _ h_ => h_.1))) (Kd.zS ho1) hb); have n2_ := Aside0.mk (Kd.zJ (Kd.zT ho0 (Kd.Q_lt (by (with_reducible repeat (first | apply Kd.zL | apply Kd.zM | apply Kd.zN)); exact (Kd.zX (Kd.Q_far (p := ⟨gb365, 3, none⟩) (Kd.Q_far (p := ⟨gb365, 2, none⟩) (Kd.Q_far (p := ⟨gb365, 1, none⟩) (Kd.Q_far (p := ⟨gb365, 0, none⟩) (Kd.xB HO357.out BK365.out (by decide)) (fun _ hk => hk.2) (.slice Ao8 t355.length co8)) (fun _ hk => hk.2) (.slice Ao10 t358.length co10)) (fun _ hk => hk.2) (.int .i64 t361)) (fun _ hk => hk.2) (.int .i64 t362)) (fun _ h_ => h_.1))))) (qN (by repeat (first | (with_reducible first | exact HB.out | apply qI | apply qD | apply qH | refine qG ?_ GE365.out) | exact HB.out)))); have n3_ := Aside0.mk (Kd.zJ (Kd.zT ho1 (Kd.R_lt (by (with_reducible repeat (first | apply Kd.qK | apply Kd.qJ | apply Kd.qL)); exact (Kd.qV (Kd.R_far (p := ⟨gb365, 3, none⟩) (Kd.R_far (p := ⟨gb365, 2, none⟩) (Kd.R_far (p := ⟨gb365, 1, none⟩) (Kd.R_far (p := ⟨gb365, 0, none⟩) (Kd.qX HO360.out BK365.out (by decide)) (fun _ hk => hk.2) (.slice Ao8 t355.length co8)) (fun _ hk => hk.2) (.slice Ao10 t358.length co10)) (fun _ hk => hk.2) (.int .i64 t361)) (fun _ hk => hk.2) (.int .i64 t362)) (fun _ h_ => h_.1))))) (qN (by repeat (first | (with_reducible first | exact HB.out | apply qI | apply qD | apply qH | refine qG ?_ GE365.out) | exact HB.out)))); have n4_ := Aside0.mk (qM (g := gb365) (o := .cells #[.slice Ao8 t355.length co8, .slice Ao10 t358.length co10, .int .i64 t361, .int .i64 t362] 26 (0, 0)) (by (with_reducible repeat (first | refine qC ?_ _ | refine qF ?_ | refine qA ?_ _)); refine qR (cs := #[.slice Ao8 t355.length co8, .slice Ao10 t358.length co10, .int .i64 t361, .int .i64 0]) ?_ 3 _ rfl; (with_reducible repeat (first | refine qC ?_ _ | refine qF ?_ | refine qA ?_ _)); refine qR (cs := #[.slice Ao8 t355.length co8, .slice Ao10 t358.length co10, .int .i64 0, .int .i64 0]) ?_ 2 _ rfl; (with_reducible repeat (first | refine qC ?_ _ | refine qF ?_ | refine qA ?_ _)); refine qR (cs := #[.slice Ao8 t355.length co8, .slice none 0 0, .int .i64 0, .int .i64 0]) ?_ 1 _ rfl; (with_reducible repeat (first | refine qC ?_ _ | refine qF ?_ | refine qA ?_ _)); refine qR (cs := #[.slice none 0 0, .slice none 0 0, .int .i64 0, .int .i64 0]) ?_ 0 _ rfl; (with_reducible repeat (first | refine qC ?_ _ | refine qF ?_ | refine qA ?_ _)); exact BK365.out) hb); have n5_ := Aside0.mk (qO (by repeat (first | (with_reducible first | exact HB.out | apply qI | apply qD | apply qH | refine qG ?_ GE365.out) | exact HB.out)) hb); clear HO357; clear HO360; clear BK365; clear HB; have HO357 := n0_; have HO360 := n1_; have HO368 := n2_; have HO371 := n3_; have BK365 := n4_; have HB := n5_; clear n0_ n1_ n2_ n3_ n4_ n5_; (try clear hb); (try clear hb2); (try clear hk); (try clear hi); (try clear ho0); (try clear ho1)) | ((with_reducible refine zB (N := 6) rfl ?_); refine qY ?hg (N := 6) ?hd (cs := #[.slice none 0 0, .slice none 0 0, .int .i64 0, .int .i64 0]) (t := 26) ?hr ?_; (case hd => rfl); (case hg => rfl); (case hr => first | (go_simp; done) | (go_simp; rfl)); intro gb374 hg w12 hbox hb; have n0_ := Aside0.mk (Kd.zZ (by (with_reducible repeat (first | apply Kd.zL | apply Kd.zM | apply Kd.zN)); exact HO357.out) hb); have n1_ := Aside0.mk (Kd.zA (by (with_reducible repeat (first | apply Kd.qK | apply Kd.qJ | apply Kd.qL)); exact HO360.out) hb); have n2_ := Aside0.mk (Kd.zA (by (with_reducible repeat (first | apply Kd.qK | apply Kd.qJ | apply Kd.qL)); exact HO368.out) hb); have n3_ := Aside0.mk (Kd.zA (by (with_reducible repeat (first | apply Kd.qK | apply Kd.qJ | apply Kd.qL)); exact HO371.out) hb); have n4_ := Aside0.mk (qM (g := gb365) (o := .cells #[.slice Ao8 t355.length co8, .slice Ao10 t358.length co10, .int .i64 t361, .int .i64 t362] 26 (0, 0)) (by (with_reducible repeat (first | refine qC ?_ _ | refine qF ?_ | refine qA ?_ _)); exact BK365.out) hb); have n5_ := Aside0.mk (qO (by repeat (first | (with_reducible first | exact HB.out | apply qI | apply qD | apply qH | refine qG ?_ GE365.out) | exact HB.out)) hb); have n6_ := Aside0.mk (hbox); have n7_ := Aside0.mk ((by rw [hg]; exact (qN (by repeat (first | (with_reducible first | exact HB.out | apply qI | apply qD | apply qH | refine qG ?_ GE365.out) | exact HB.out))) : w.heap.size ≤ gb374)); have n8_ := Aside0.mk ((by rw [hg]; exact (qN (by repeat (first | (with_reducible first | exact HB.out | apply qI | apply qD | apply qH | refine qG ?_ GE365.out) | exact HB.out))) : w.heap.size ≤ gb374)); have n9_ := Aside0.mk ((by rw [hg]; exact Nat.ne_of_lt (zG (g := gb365) (o := .cells #[.slice Ao8 t355.length co8, .slice Ao10 t358.length co10, .int .i64 t361, .int .i64 t362] 26 (0, 0)) (by (with_reducible repeat (first | refine qC ?_ _ | refine qF ?_ | refine qA ?_ _)); exact BK365.out)) : gb365 ≠ gb374)); have n10_ := Aside0.mk ((by rw [hg]; exact Nat.ne_of_gt (zG (g := gb365) (o := .cells #[.slice Ao8 t355.length co8, .slice Ao10 t358.length co10, .int .i64 t361, .int .i64 t362] 26 (0, 0)) (by (with_reducible repeat (first | refine qC ?_ _ | refine qF ?_ | refine qA ?_ _)); exact BK365.out)) : gb374 ≠ gb365)); clear HO357; clear HO360; clear HO368; clear HO371; clear BK365; clear HB; have HO357 := n0_; have HO360 := n1_; have HO368 := n2_; have HO371 := n3_; have BK365 := n4_; have HB := n5_; have BK374 := n6_; have GW374 := n7_; have GE374 := n8_; have NB365_374 := n9_; have NB374_365 := n10_; clear n0_ n1_ n2_ n3_ n4_ n5_ n6_ n7_ n8_ n9_ n10_; clear hb hbox hg; obtain ⟨Ao13, co13, eo13⟩ := Kd.zF HO368.out; subst eo13; have hnb14 := NB374_365.out; have hnc14 := NB365_374.out; have hcz15_0 : w12.cell? ⟨gb374, 0, none⟩ = some (.slice none 0 0) := (qB BK374.out 0).trans rfl; have hcz15_1 : w12.cell? ⟨gb374, 1, none⟩ = some (.slice none 0 0) := (qB BK374.out 1).trans rfl; have hcz15_2 : w12.cell? ⟨gb374, 2, none⟩ = some (.int .i64 0) := (qB BK374.out 2).trans rfl; have hcz15_3 : w12.cell? ⟨gb374, 3, none⟩ = some (.int .i64 0) := (qB BK374.out 3).trans rfl; have hfz15_0 := qE BK374.out 0; have hfz15_1 := qE BK374.out 1; have hfz15_2 := qE BK374.out 2; have hfz15_3 := qE BK374.out 3; obtain ⟨Ao16, co16, eo16⟩ := Kd.zF HO371.out; subst eo16))
    (try simp only [Act.put, List.setIfInBounds_toArray, List.set_cons_zero, List.set_cons_succ])
    go_cut [48] (fun v48 wc => ∃ (kq : Nat) (x48_4 : Bool), v48 = .bool x48_4 ∧ Aside0 (laws_FnDiskRoom.j0 kq t363 x48_4 t355 t358 t361 t362 t366 t369 t372 t373 = some true) ∧ Aside0 (kq ≤ k) ∧ Aside0 (Kd.Q Kd.string 9 wc w.heap.size (fun k_ => some k_ ≠ ((.slice Ao13 t366.length co13) : Value).ownBlock) (.slice Ao8 t355.length co8) t355) ∧ Aside0 (Kd.R k70 70 wc w.heap.size (fun k_ => some k_ ≠ ((.slice Ao16 t369.length co16) : Value).ownBlock) (.slice Ao10 t358.length co10) t358) ∧ Aside0 (Kd.Q Kd.string 9 wc w.heap.size (fun k_ => some k_ ≠ ((.slice Ao8 t355.length co8) : Value).ownBlock) (.slice Ao13 t366.length co13) t366) ∧ Aside0 (Kd.R k70 70 wc w.heap.size (fun k_ => some k_ ≠ ((.slice Ao10 t358.length co10) : Value).ownBlock) (.slice Ao16 t369.length co16) t369) ∧ Aside0 (wc.heap[gb365]? = some (.cells #[(.slice Ao8 t355.length co8), (.slice Ao10 t358.length co10), .int .i64 t361, .int .i64 t362] 26 (0, 0))) ∧ Aside0 (wc.heap[gb374]? = some (.cells #[(.slice Ao13 t366.length co13), (.slice Ao16 t369.length co16), .int .i64 t372, .int .i64 t373] 26 (0, 0))) ∧ Aside0 (Below w.heap.size w wc))
    case first =>
      have H := HC5.out
      clear HC5
      replace H := Option.bind_eq_some_iff.mp H
      obtain ⟨⟨t375, t378, t381, t382⟩, A170, H⟩ := H
      replace H : ((laws_jtDisk.f k t366 t369 t372 t373 t375 t378 t381 t382).bind fun t383 => (if t383 = true then ((spec_DiskOk.f k t355 t358 t361 t362).bind fun t384 => (if t384 = true then (if t363 < 0 then (laws_FnDiskRoom.j0 k t363 true t355 t358 t361 t362 t366 t369 t372 t373) else (if t364 < (-5) then (laws_FnDiskRoom.j0 k t363 true t355 t358 t361 t362 t366 t369 t372 t373) else (laws_FnDiskRoom.j0 k t363 (decide ((t358.length : Int) > 50)) t355 t358 t361 t362 t366 t369 t372 t373))) else (laws_FnDiskRoom.j0 k t363 true t355 t358 t361 t362 t366 t369 t372 t373))) else (laws_FnDiskRoom.j0 k t363 true t355 t358 t361 t362 t366 t369 t372 t373))) = some true := H
      have A17 := Aside0.mk A170
      clear A170
      replace H := Option.bind_eq_some_iff.mp H
      obtain ⟨t383, A180, H⟩ := H
      replace H : (if t383 = true then ((spec_DiskOk.f k t355 t358 t361 t362).bind fun t384 => (if t384 = true then (if t363 < 0 then (laws_FnDiskRoom.j0 k t363 true t355 t358 t361 t362 t366 t369 t372 t373) else (if t364 < (-5) then (laws_FnDiskRoom.j0 k t363 true t355 t358 t361 t362 t366 t369 t372 t373) else (laws_FnDiskRoom.j0 k t363 (decide ((t358.length : Int) > 50)) t355 t358 t361 t362 t366 t369 t372 t373))) else (laws_FnDiskRoom.j0 k t363 true t355 t358 t361 t362 t366 t369 t372 t373))) else (laws_FnDiskRoom.j0 k t363 true t355 t358 t361 t362 t366 t369 t372 t373)) = some true := H
      have A18 := Aside0.mk A180
      clear A180
      by_cases c19 : t383 = true
      · subst c19
        have H1 : ((spec_DiskOk.f k t355 t358 t361 t362).bind fun t384 => (if t384 = true then (if t363 < 0 then (laws_FnDiskRoom.j0 k t363 true t355 t358 t361 t362 t366 t369 t372 t373) else (if t364 < (-5) then (laws_FnDiskRoom.j0 k t363 true t355 t358 t361 t362 t366 t369 t372 t373) else (laws_FnDiskRoom.j0 k t363 (decide ((t358.length : Int) > 50)) t355 t358 t361 t362 t366 t369 t372 t373))) else (laws_FnDiskRoom.j0 k t363 true t355 t358 t361 t362 t366 t369 t372 t373))) = some true := by rw [if_pos rfl] at H; exact H
        clear H
        have H := H1
        clear H1
        replace H := Option.bind_eq_some_iff.mp H
        obtain ⟨t384, A200, H⟩ := H
        replace H : (if t384 = true then (if t363 < 0 then (laws_FnDiskRoom.j0 k t363 true t355 t358 t361 t362 t366 t369 t372 t373) else (if t364 < (-5) then (laws_FnDiskRoom.j0 k t363 true t355 t358 t361 t362 t366 t369 t372 t373) else (laws_FnDiskRoom.j0 k t363 (decide ((t358.length : Int) > 50)) t355 t358 t361 t362 t366 t369 t372 t373))) else (laws_FnDiskRoom.j0 k t363 true t355 t358 t361 t362 t366 t369 t372 t373)) = some true := H
        have A20 := Aside0.mk A200
        clear A200
        by_cases c21 : t384 = true
        · subst c21
          have H1 : (if t363 < 0 then (laws_FnDiskRoom.j0 k t363 true t355 t358 t361 t362 t366 t369 t372 t373) else (if t364 < (-5) then (laws_FnDiskRoom.j0 k t363 true t355 t358 t361 t362 t366 t369 t372 t373) else (laws_FnDiskRoom.j0 k t363 (decide ((t358.length : Int) > 50)) t355 t358 t361 t362 t366 t369 t372 t373))) = some true := by rw [if_pos rfl] at H; exact H
          clear H
          have H := H1
          clear H1
          by_cases c22 : t363 < 0
          · rw [if_pos c22] at H
            have c22b0 : decide (t363 < 0) = true := decide_eq_true c22
            clear c22
            (first | rw [c22b0] | (simp only [i64_w, i32_w]; rw [c22b0]) | skip)
            have H' := Aside0.mk H
            clear H
            try go_wp2
            have n0_ : Aside0 (Kd.Q Kd.string 9 ((((w12.setCell ⟨gb374, 0, none⟩ (.slice Ao13 t366.length co13)).setCell ⟨gb374, 1, none⟩ (.slice Ao16 t369.length co16)).setCell ⟨gb374, 2, none⟩ (.int .i64 t372)).setCell ⟨gb374, 3, none⟩ (.int .i64 t373)) w.heap.size (fun k_ => some k_ ≠ (.slice Ao13 t366.length co13 : Value).ownBlock) (.slice Ao8 t355.length co8) t355) := ⟨by (with_reducible repeat (first | apply Kd.zL | apply Kd.zM | apply Kd.zN)); exact Kd.zX (Kd.Q_far (p := ⟨gb374, 3, none⟩) (Kd.Q_far (p := ⟨gb374, 2, none⟩) (Kd.Q_far (p := ⟨gb374, 1, none⟩) (Kd.Q_far (p := ⟨gb374, 0, none⟩) (Kd.xB HO357.out BK374.out (by decide)) (fun _ hk => hk.2) (.slice Ao13 t366.length co13)) (fun _ hk => hk.2) (.slice Ao16 t369.length co16)) (fun _ hk => hk.2) (.int .i64 t372)) (fun _ hk => hk.2) (.int .i64 t373)) (fun _ hk => hk.1.2)⟩
            have n1_ : Aside0 (Kd.R k70 70 ((((w12.setCell ⟨gb374, 0, none⟩ (.slice Ao13 t366.length co13)).setCell ⟨gb374, 1, none⟩ (.slice Ao16 t369.length co16)).setCell ⟨gb374, 2, none⟩ (.int .i64 t372)).setCell ⟨gb374, 3, none⟩ (.int .i64 t373)) w.heap.size (fun k_ => some k_ ≠ (.slice Ao16 t369.length co16 : Value).ownBlock) (.slice Ao10 t358.length co10) t358) := ⟨by (with_reducible repeat (first | apply Kd.qK | apply Kd.qJ | apply Kd.qL)); exact Kd.qV (Kd.R_far (p := ⟨gb374, 3, none⟩) (Kd.R_far (p := ⟨gb374, 2, none⟩) (Kd.R_far (p := ⟨gb374, 1, none⟩) (Kd.R_far (p := ⟨gb374, 0, none⟩) (Kd.qX HO360.out BK374.out (by decide)) (fun _ hk => hk.2) (.slice Ao13 t366.length co13)) (fun _ hk => hk.2) (.slice Ao16 t369.length co16)) (fun _ hk => hk.2) (.int .i64 t372)) (fun _ hk => hk.2) (.int .i64 t373)) (fun _ hk => hk.1.2)⟩
            have n2_ : Aside0 (Kd.R Kd.string 9 ((((w12.setCell ⟨gb374, 0, none⟩ (.slice Ao13 t366.length co13)).setCell ⟨gb374, 1, none⟩ (.slice Ao16 t369.length co16)).setCell ⟨gb374, 2, none⟩ (.int .i64 t372)).setCell ⟨gb374, 3, none⟩ (.int .i64 t373)) w.heap.size (fun k_ => some k_ ≠ (.slice Ao8 t355.length co8 : Value).ownBlock) (.slice Ao13 t366.length co13) t366) := ⟨by (with_reducible repeat (first | apply Kd.qK | apply Kd.qJ | apply Kd.qL)); exact Kd.qV (Kd.R_far (p := ⟨gb374, 3, none⟩) (Kd.R_far (p := ⟨gb374, 2, none⟩) (Kd.R_far (p := ⟨gb374, 1, none⟩) (Kd.R_far (p := ⟨gb374, 0, none⟩) (Kd.qX HO368.out BK374.out (by decide)) (fun _ hk => hk.2) (.slice Ao13 t366.length co13)) (fun _ hk => hk.2) (.slice Ao16 t369.length co16)) (fun _ hk => hk.2) (.int .i64 t372)) (fun _ hk => hk.2) (.int .i64 t373)) (fun _ hk => hk.1.2)⟩
            have n3_ : Aside0 (Kd.R k70 70 ((((w12.setCell ⟨gb374, 0, none⟩ (.slice Ao13 t366.length co13)).setCell ⟨gb374, 1, none⟩ (.slice Ao16 t369.length co16)).setCell ⟨gb374, 2, none⟩ (.int .i64 t372)).setCell ⟨gb374, 3, none⟩ (.int .i64 t373)) w.heap.size (fun k_ => some k_ ≠ (.slice Ao10 t358.length co10 : Value).ownBlock) (.slice Ao16 t369.length co16) t369) := ⟨by (with_reducible repeat (first | apply Kd.qK | apply Kd.qJ | apply Kd.qL)); exact Kd.qV (Kd.R_far (p := ⟨gb374, 3, none⟩) (Kd.R_far (p := ⟨gb374, 2, none⟩) (Kd.R_far (p := ⟨gb374, 1, none⟩) (Kd.R_far (p := ⟨gb374, 0, none⟩) (Kd.qX HO371.out BK374.out (by decide)) (fun _ hk => hk.2) (.slice Ao13 t366.length co13)) (fun _ hk => hk.2) (.slice Ao16 t369.length co16)) (fun _ hk => hk.2) (.int .i64 t372)) (fun _ hk => hk.2) (.int .i64 t373)) (fun _ hk => hk.1.2)⟩
            have n4_ : Aside0 (((((w12.setCell ⟨gb374, 0, none⟩ (.slice Ao13 t366.length co13)).setCell ⟨gb374, 1, none⟩ (.slice Ao16 t369.length co16)).setCell ⟨gb374, 2, none⟩ (.int .i64 t372)).setCell ⟨gb374, 3, none⟩ (.int .i64 t373)).heap[gb365]? = some (.cells #[.slice Ao8 t355.length co8, .slice Ao10 t358.length co10, .int .i64 t361, .int .i64 t362] 26 (0, 0))) := ⟨by (with_reducible repeat (first | refine qC ?_ _ | refine qF ?_ | refine qA ?_ _)); refine qU ?_ NB365_374.out _; (with_reducible repeat (first | refine qC ?_ _ | refine qF ?_ | refine qA ?_ _)); refine qU ?_ NB365_374.out _; (with_reducible repeat (first | refine qC ?_ _ | refine qF ?_ | refine qA ?_ _)); refine qU ?_ NB365_374.out _; (with_reducible repeat (first | refine qC ?_ _ | refine qF ?_ | refine qA ?_ _)); refine qU ?_ NB365_374.out _; (with_reducible repeat (first | refine qC ?_ _ | refine qF ?_ | refine qA ?_ _)); exact BK365.out⟩
            have n5_ : Aside0 (((((w12.setCell ⟨gb374, 0, none⟩ (.slice Ao13 t366.length co13)).setCell ⟨gb374, 1, none⟩ (.slice Ao16 t369.length co16)).setCell ⟨gb374, 2, none⟩ (.int .i64 t372)).setCell ⟨gb374, 3, none⟩ (.int .i64 t373)).heap[gb374]? = some (.cells #[.slice Ao13 t366.length co13, .slice Ao16 t369.length co16, .int .i64 t372, .int .i64 t373] 26 (0, 0))) := ⟨by (with_reducible repeat (first | refine qC ?_ _ | refine qF ?_ | refine qA ?_ _)); refine qR (cs := #[.slice Ao13 t366.length co13, .slice Ao16 t369.length co16, .int .i64 t372, .int .i64 0]) ?_ 3 _ rfl; (with_reducible repeat (first | refine qC ?_ _ | refine qF ?_ | refine qA ?_ _)); refine qR (cs := #[.slice Ao13 t366.length co13, .slice Ao16 t369.length co16, .int .i64 0, .int .i64 0]) ?_ 2 _ rfl; (with_reducible repeat (first | refine qC ?_ _ | refine qF ?_ | refine qA ?_ _)); refine qR (cs := #[.slice Ao13 t366.length co13, .slice none 0 0, .int .i64 0, .int .i64 0]) ?_ 1 _ rfl; (with_reducible repeat (first | refine qC ?_ _ | refine qF ?_ | refine qA ?_ _)); refine qR (cs := #[.slice none 0 0, .slice none 0 0, .int .i64 0, .int .i64 0]) ?_ 0 _ rfl; (with_reducible repeat (first | refine qC ?_ _ | refine qF ?_ | refine qA ?_ _)); exact BK374.out⟩
            have n6_ : Aside0 (Below w.heap.size w ((((w12.setCell ⟨gb374, 0, none⟩ (.slice Ao13 t366.length co13)).setCell ⟨gb374, 1, none⟩ (.slice Ao16 t369.length co16)).setCell ⟨gb374, 2, none⟩ (.int .i64 t372)).setCell ⟨gb374, 3, none⟩ (.int .i64 t373))) := ⟨by repeat (first | (with_reducible first | exact HB.out | apply qI | apply qD | apply qH | refine qG ?_ GE365.out | refine qG ?_ GE374.out) | exact HB.out)⟩
            (try clear HO357)
            (try clear HO360)
            (try clear HO368)
            (try clear HO371)
            (try clear BK365)
            (try clear BK374)
            (try clear HB)
            generalize ((((w12.setCell ⟨gb374, 0, none⟩ (.slice Ao13 t366.length co13)).setCell ⟨gb374, 1, none⟩ (.slice Ao16 t369.length co16)).setCell ⟨gb374, 2, none⟩ (.int .i64 t372)).setCell ⟨gb374, 3, none⟩ (.int .i64 t373)) = w23 at n0_ n1_ n2_ n3_ n4_ n5_ n6_ ⊢
            have HO357 := n0_
            have HO360 := n1_
            have HO368 := n2_
            have HO371 := n3_
            have BK365 := n4_
            have BK374 := n5_
            have HB := n6_
            clear n0_ n1_ n2_ n3_ n4_ n5_ n6_
            have n0_ := Aside0.mk (Kd.zN HO357.out)
            have n1_ := Aside0.mk (Kd.qL HO360.out)
            have n2_ := Aside0.mk (Kd.qL HO368.out)
            have n3_ := Aside0.mk (Kd.qL HO371.out)
            have n4_ := Aside0.mk (qF BK365.out)
            have n5_ := Aside0.mk (qF BK374.out)
            have n6_ := Aside0.mk (qH HB.out)
            clear HO357
            clear HO360
            clear HO368
            clear HO371
            clear BK365
            clear BK374
            clear HB
            have HO357 := n0_
            have HO360 := n1_
            have HO368 := n2_
            have HO371 := n3_
            have BK365 := n4_
            have BK374 := n5_
            have HB := n6_
            clear n0_ n1_ n2_ n3_ n4_ n5_ n6_
            refine start_ (n := 25) (S := fun w' => w'.cell? ⟨gb374, 0, none⟩ = some (.slice Ao13 t366.length co13) ∧ w'.cell? ⟨gb374, 1, none⟩ = some (.slice Ao16 t369.length co16) ∧ w'.cell? ⟨gb374, 2, none⟩ = some (.int .i64 t372) ∧ w'.cell? ⟨gb374, 3, none⟩ = some (.int .i64 t373) ∧ w'.cell? ⟨gb365, 0, none⟩ = some (.slice Ao8 t355.length co8) ∧ w'.cell? ⟨gb365, 1, none⟩ = some (.slice Ao10 t358.length co10) ∧ w'.cell? ⟨gb365, 2, none⟩ = some (.int .i64 t361) ∧ w'.cell? ⟨gb365, 3, none⟩ = some (.int .i64 t362)) (ds := []) #[false, false, false, false, false, false, false, false, false, false, false, false, false, false, false, false, false, false, false, false, false, false, false, false, false] (by kernel_rfl) rfl rfl ⟨(qB BK374.out 0).trans rfl, (qB BK374.out 1).trans rfl, (qB BK374.out 2).trans rfl, (qB BK374.out 3).trans rfl, (qB BK365.out 0).trans rfl, (qB BK365.out 1).trans rfl, (qB BK365.out 2).trans rfl, (qB BK365.out 3).trans rfl⟩ (fun hHeld => ?_); refine xH laws_FnDiskRoom.tab5 laws_FnDiskRoom.bits5 (fun HT_ HW_ => ?_)
            generalize w23.drew = w24 at HO357 HO360 HO368 HO371 BK365 BK374 HB hHeld ⊢
            refine pure_ (i := 2) (N := some 26) (v := ?_) (a' := ?_) #[false, false, true, false, false, false, false, false, false, false, false, false, false, false, false, false, false, false, false, false, false, false, false, false, false] rfl rfl (zE HT_.out (by kernel_rfl)) (fun _ _ _ h => h) (Or.inl ⟨by rfl, ?_⟩) ?_ ?_
            rotate_left
            · intro w'
              go_simp
              with_reducible rfl
            rotate_left
            · simp only [Act.put, List.setIfInBounds_toArray, List.set_cons_zero, List.set_cons_succ, i64_w, i32_w]
              rfl
            refine take_ (i := 0) (N := some 24) (v := ?_) (a' := ?_) #[true, false, true, false, false, false, false, false, false, false, false, false, false, false, false, false, false, false, false, false, false, false, false, false, false] rfl rfl (zU HT_.out HW_.out (by kernel_rfl)) (fun _ _ _ h => h) (Or.inl ⟨by rfl, ?_⟩) hHeld ?_ ?_
            rotate_left
            · rintro w' ⟨s0, s1, s2, s3, s4, s5, s6, s7⟩
              go_simp
              with_reducible rfl
            rotate_left
            · simp only [Act.put, List.setIfInBounds_toArray, List.set_cons_zero, List.set_cons_succ, i64_w, i32_w]
              rfl
            refine take_ (i := 1) (N := some 25) (v := ?_) (a' := ?_) #[true, true, true, false, false, false, false, false, false, false, false, false, false, false, false, false, false, false, false, false, false, false, false, false, false] rfl rfl (zU HT_.out HW_.out (by kernel_rfl)) (fun _ _ _ h => h) (Or.inl ⟨by rfl, ?_⟩) hHeld ?_ ?_
            rotate_left
            · rintro w' ⟨s0, s1, s2, s3, s4, s5, s6, s7⟩
              go_simp
              with_reducible rfl
            rotate_left
            · simp only [Act.put, List.setIfInBounds_toArray, List.set_cons_zero, List.set_cons_succ, i64_w, i32_w]
              rfl
            refine one_ (i := 3) (N := some 27) #[true, true, true, true, false, false, false, false, false, false, false, false, false, false, false, false, false, false, false, false, false, false, false, false, false] rfl rfl (zW HT_.out (by kernel_rfl)) (by decide) (fun K hK => ?_)
            refine goes_ Try.func14 (by kernel_rfl) rfl #[.agg #[.slice Ao8 t355.length co8, .slice Ao10 t358.length co10, .int .i64 t361, .int .i64 t362], .int .i64 t363, .int .i64 (-1)] (by rfl) rfl rfl (by (try simp only [List.map_toArray, List.map_cons, List.map_nil]); first | done | rfl | (simp only [List.length_drop, List.length_take]; rfl)) ?_
            with_reducible refine (spec_DiskSet.calls k _ _ t355 _ _ t358 t361 t362 t363 (-1) t375 t378 t381 t382 _ ?side1 ?side2 ?side3 ?side4 A17.out).mono ?_
            (case side1 => repeat (first | exact (Kd.zQ HO357.out).2.2 | (with_reducible refine Kd.zC ?_ _) | (with_reducible refine Kd.zD ?_ _) | (with_reducible refine Kd.zH ?_)))
            (case side2 => exact (Kd.zQ HO357.out).2.1)
            (case side3 => repeat (first | exact (Kd.qW HO360.out).2.2 | (with_reducible refine Kd.zC ?_ _) | (with_reducible refine Kd.zD ?_ _) | (with_reducible refine Kd.zH ?_)))
            (case side4 => exact (Kd.qW HO360.out).2.1)
            rintro e w25 ⟨v376, v379, rfl, ho0, ho1, hb⟩
            refine ⟨_, rfl, ?_⟩
            have n0_ := Aside0.mk (Kd.xF (by (with_reducible repeat (first | apply Kd.zL | apply Kd.zM | apply Kd.zN)); exact HO357.out) (Kd.zS ho0) hb)
            have n1_ := Aside0.mk (Kd.zR (by (with_reducible repeat (first | apply Kd.qK | apply Kd.qJ | apply Kd.qL)); exact HO360.out) (Kd.zS ho1) hb)
            have n2_ := Aside0.mk (Kd.zR (by (with_reducible repeat (first | apply Kd.qK | apply Kd.qJ | apply Kd.qL)); exact HO368.out) (Kd.zS ho0) hb)
            have n3_ := Aside0.mk (Kd.zR (by (with_reducible repeat (first | apply Kd.qK | apply Kd.qJ | apply Kd.qL)); exact HO371.out) (Kd.zS ho1) hb)
            have n4_ := Aside0.mk (Kd.zJ (Kd.zT (Kd.zT ho0 (Kd.Q_lt (by (with_reducible repeat (first | apply Kd.zL | apply Kd.zM | apply Kd.zN)); exact HO357.out))) (Kd.R_lt (by (with_reducible repeat (first | apply Kd.qK | apply Kd.qJ | apply Kd.qL)); exact HO368.out))) (qN (by repeat (first | (with_reducible first | exact HB.out | apply qI | apply qD | apply qH | refine qG ?_ GE365.out | refine qG ?_ GE374.out) | exact HB.out))))
            have n5_ := Aside0.mk (Kd.zJ (Kd.zT (Kd.zT ho1 (Kd.R_lt (by (with_reducible repeat (first | apply Kd.qK | apply Kd.qJ | apply Kd.qL)); exact HO360.out))) (Kd.R_lt (by (with_reducible repeat (first | apply Kd.qK | apply Kd.qJ | apply Kd.qL)); exact HO371.out))) (qN (by repeat (first | (with_reducible first | exact HB.out | apply qI | apply qD | apply qH | refine qG ?_ GE365.out | refine qG ?_ GE374.out) | exact HB.out))))
            have n6_ := Aside0.mk (qM (g := gb365) (o := .cells #[.slice Ao8 t355.length co8, .slice Ao10 t358.length co10, .int .i64 t361, .int .i64 t362] 26 (0, 0)) (by (with_reducible repeat (first | refine qC ?_ _ | refine qF ?_ | refine qA ?_ _)); exact BK365.out) hb)
            have n7_ := Aside0.mk (qM (g := gb374) (o := .cells #[.slice Ao13 t366.length co13, .slice Ao16 t369.length co16, .int .i64 t372, .int .i64 t373] 26 (0, 0)) (by (with_reducible repeat (first | refine qC ?_ _ | refine qF ?_ | refine qA ?_ _)); exact BK374.out) hb)
            have n8_ := Aside0.mk (qO (by repeat (first | (with_reducible first | exact HB.out | apply qI | apply qD | apply qH | refine qG ?_ GE365.out | refine qG ?_ GE374.out) | exact HB.out)) hb)
            clear HO357
            clear HO360
            clear HO368
            clear HO371
            clear BK365
            clear BK374
            clear HB
            have HO357 := n0_
            have HO360 := n1_
            have HO368 := n2_
            have HO371 := n3_
            have HO377 := n4_
            have HO380 := n5_
            have BK365 := n6_
            have BK374 := n7_
            have HB := n8_
            clear n0_ n1_ n2_ n3_ n4_ n5_ n6_ n7_ n8_
            (try clear hb)
            (try clear hb2)
            (try clear hk)
            (try clear hi)
            (try clear ho0)
            (try clear ho1)
            obtain ⟨Ao26, co26, eo26⟩ := Kd.zF HO377.out
            (first | subst eo26 | (injection eo26 with f1_ f2_ f3_; have f4_ := f1_.symm; have f5_ := f3_.symm; clear f1_ f2_ f3_; subst f4_; subst f5_))
            obtain ⟨Ao27, co27, eo27⟩ := Kd.zF HO380.out
            (first | subst eo27 | (injection eo27 with f1_ f2_ f3_; have f4_ := f1_.symm; have f5_ := f3_.symm; clear f1_ f2_ f3_; subst f4_; subst f5_))
            refine hK.out _ _ ⟨(qB BK374.out 0).trans rfl, (qB BK374.out 1).trans rfl, (qB BK374.out 2).trans rfl, (qB BK374.out 3).trans rfl, (qB BK365.out 0).trans rfl, (qB BK365.out 1).trans rfl, (qB BK365.out 2).trans rfl, (qB BK365.out 3).trans rfl⟩ (fun hHeld => ?_)
            clear hK K
            refine norm_ (a' := ?_) ?_ ?_
            rotate_left
            · show Act.put _ (some 27) _ = _
              simp only [Act.put, List.setIfInBounds_toArray, List.set_cons_zero, List.set_cons_succ, i64_w, i32_w]
              rfl
            refine one_ (i := 4) (N := some 28) #[true, true, true, true, true, false, false, false, false, false, false, false, false, false, false, false, false, false, false, false, false, false, false, false, false] rfl rfl (zW HT_.out (by kernel_rfl)) (by decide) (fun K hK => ?_)
            refine goes_ Try.func13 (by kernel_rfl) rfl #[.agg #[.slice Ao13 t366.length co13, .slice Ao16 t369.length co16, .int .i64 t372, .int .i64 t373], .agg #[.slice Ao26 t375.length co26, .slice Ao27 t378.length co27, .int .i64 t381, .int .i64 t382]] (by rfl) rfl rfl (by (try simp only [List.map_toArray, List.map_cons, List.map_nil]); first | done | rfl | (simp only [List.length_drop, List.length_take]; rfl)) ?_
            with_reducible refine (laws_jtDisk.calls k _ _ t366 _ _ t369 t372 t373 _ _ t375 _ _ t378 t381 t382 true _ ?side1 ?side2 ?side3 ?side4 ?side5 ?side6 ?side7 ?side8 A18.out).mono ?_
            (case side1 => repeat (first | exact (Kd.qW HO368.out).2.2 | (with_reducible refine Kd.zC ?_ _) | (with_reducible refine Kd.zD ?_ _) | (with_reducible refine Kd.zH ?_)))
            (case side2 => exact (Kd.qW HO368.out).2.1)
            (case side3 => repeat (first | exact (Kd.qW HO371.out).2.2 | (with_reducible refine Kd.zC ?_ _) | (with_reducible refine Kd.zD ?_ _) | (with_reducible refine Kd.zH ?_)))
            (case side4 => exact (Kd.qW HO371.out).2.1)
            (case side5 => repeat (first | exact (Kd.qW HO377.out).2.2 | (with_reducible refine Kd.zC ?_ _) | (with_reducible refine Kd.zD ?_ _) | (with_reducible refine Kd.zH ?_)))
            (case side6 => exact (Kd.qW HO377.out).2.1)
            (case side7 => repeat (first | exact (Kd.qW HO380.out).2.2 | (with_reducible refine Kd.zC ?_ _) | (with_reducible refine Kd.zD ?_ _) | (with_reducible refine Kd.zH ?_)))
            (case side8 => exact (Kd.qW HO380.out).2.1)
            rintro e w28 ⟨rfl, hb⟩
            refine ⟨_, rfl, ?_⟩
            have n0_ := Aside0.mk (Kd.zZ (by (with_reducible repeat (first | apply Kd.zL | apply Kd.zM | apply Kd.zN)); exact HO357.out) hb)
            have n1_ := Aside0.mk (Kd.zA (by (with_reducible repeat (first | apply Kd.qK | apply Kd.qJ | apply Kd.qL)); exact HO360.out) hb)
            have n2_ := Aside0.mk (Kd.zA (by (with_reducible repeat (first | apply Kd.qK | apply Kd.qJ | apply Kd.qL)); exact HO368.out) hb)
            have n3_ := Aside0.mk (Kd.zA (by (with_reducible repeat (first | apply Kd.qK | apply Kd.qJ | apply Kd.qL)); exact HO371.out) hb)
            have n4_ := Aside0.mk (Kd.zA (by (with_reducible repeat (first | apply Kd.qK | apply Kd.qJ | apply Kd.qL)); exact HO377.out) hb)
            have n5_ := Aside0.mk (Kd.zA (by (with_reducible repeat (first | apply Kd.qK | apply Kd.qJ | apply Kd.qL)); exact HO380.out) hb)
            have n6_ := Aside0.mk (qM (g := gb365) (o := .cells #[.slice Ao8 t355.length co8, .slice Ao10 t358.length co10, .int .i64 t361, .int .i64 t362] 26 (0, 0)) (by (with_reducible repeat (first | refine qC ?_ _ | refine qF ?_ | refine qA ?_ _)); exact BK365.out) hb)
            have n7_ := Aside0.mk (qM (g := gb374) (o := .cells #[.slice Ao13 t366.length co13, .slice Ao16 t369.length co16, .int .i64 t372, .int .i64 t373] 26 (0, 0)) (by (with_reducible repeat (first | refine qC ?_ _ | refine qF ?_ | refine qA ?_ _)); exact BK374.out) hb)
            have n8_ := Aside0.mk (qO (by repeat (first | (with_reducible first | exact HB.out | apply qI | apply qD | apply qH | refine qG ?_ GE365.out | refine qG ?_ GE374.out) | exact HB.out)) hb)
            clear HO357
            clear HO360
            clear HO368
            clear HO371
            clear HO377
            clear HO380
            clear BK365
            clear BK374
            clear HB
            have HO357 := n0_
            have HO360 := n1_
            have HO368 := n2_
            have HO371 := n3_
            have HO377 := n4_
            have HO380 := n5_
            have BK365 := n6_
            have BK374 := n7_
            have HB := n8_
            clear n0_ n1_ n2_ n3_ n4_ n5_ n6_ n7_ n8_
            (try clear hb)
            (try clear hb2)
            (try clear hk)
            (try clear hi)
            refine hK.out _ _ ⟨(qB BK374.out 0).trans rfl, (qB BK374.out 1).trans rfl, (qB BK374.out 2).trans rfl, (qB BK374.out 3).trans rfl, (qB BK365.out 0).trans rfl, (qB BK365.out 1).trans rfl, (qB BK365.out 2).trans rfl, (qB BK365.out 3).trans rfl⟩ (fun hHeld => ?_)
            clear hK K
            refine norm_ (a' := ?_) ?_ ?_
            rotate_left
            · show Act.put _ (some 28) _ = _
              simp only [Act.put, List.setIfInBounds_toArray, List.set_cons_zero, List.set_cons_succ, i64_w, i32_w]
              rfl
            refine pure_ (i := 5) (N := some 29) (v := ?_) (a' := ?_) #[true, true, true, true, true, true, false, false, false, false, false, false, false, false, false, false, false, false, false, false, false, false, false, false, false] rfl rfl (zE HT_.out (by kernel_rfl)) (fun _ _ _ h => h) (Or.inl ⟨by rfl, ?_⟩) ?_ ?_
            rotate_left
            · intro w'
              go_simp
              with_reducible rfl
            rotate_left
            · simp only [Act.put, List.setIfInBounds_toArray, List.set_cons_zero, List.set_cons_succ, i64_w, i32_w]
              rfl
            refine pure_ (i := 6) (N := some 30) (v := ?_) (a' := ?_) #[true, true, true, true, true, true, true, false, false, false, false, false, false, false, false, false, false, false, false, false, false, false, false, false, false] rfl rfl (zE HT_.out (by kernel_rfl)) (fun _ _ _ h => h) (Or.inl ⟨by rfl, ?_⟩) ?_ ?_
            rotate_left
            · intro w'
              go_simp
              with_reducible rfl
            rotate_left
            · simp only [Act.put, List.setIfInBounds_toArray, List.set_cons_zero, List.set_cons_succ, i64_w, i32_w]
              rfl
            refine take_ (i := 7) (N := some 31) (v := ?_) (a' := ?_) #[true, true, true, true, true, true, true, true, false, false, false, false, false, false, false, false, false, false, false, false, false, false, false, false, false] rfl rfl (zU HT_.out HW_.out (by kernel_rfl)) (fun _ _ _ h => h) (Or.inl ⟨by rfl, ?_⟩) hHeld ?_ ?_
            rotate_left
            · rintro w' ⟨s0, s1, s2, s3, s4, s5, s6, s7⟩
              go_simp
              with_reducible rfl
            rotate_left
            · simp only [Act.put, List.setIfInBounds_toArray, List.set_cons_zero, List.set_cons_succ, i64_w, i32_w]
              rfl
            refine one_ (i := 8) (N := some 32) #[true, true, true, true, true, true, true, true, true, false, false, false, false, false, false, false, false, false, false, false, false, false, false, false, false] rfl rfl (zW HT_.out (by kernel_rfl)) (by decide) (fun K hK => ?_)
            refine goes_ Try.func15 (by kernel_rfl) rfl #[.agg #[.slice Ao8 t355.length co8, .slice Ao10 t358.length co10, .int .i64 t361, .int .i64 t362]] (by rfl) rfl rfl (by (try simp only [List.map_toArray, List.map_cons, List.map_nil]); first | done | rfl | (simp only [List.length_drop, List.length_take]; rfl)) ?_
            with_reducible refine (spec_DiskOk.calls k _ _ t355 _ _ t358 t361 t362 true _ ?side1 ?side2 ?side3 ?side4 A20.out).mono ?_
            (case side1 => repeat (first | exact (Kd.zQ HO357.out).2.2 | (with_reducible refine Kd.zC ?_ _) | (with_reducible refine Kd.zD ?_ _) | (with_reducible refine Kd.zH ?_)))
            (case side2 => exact (Kd.zQ HO357.out).2.1)
            (case side3 => repeat (first | exact (Kd.qW HO360.out).2.2 | (with_reducible refine Kd.zC ?_ _) | (with_reducible refine Kd.zD ?_ _) | (with_reducible refine Kd.zH ?_)))
            (case side4 => exact (Kd.qW HO360.out).2.1)
            rintro e w29 ⟨rfl, hb⟩
            refine ⟨_, rfl, ?_⟩
            have n0_ := Aside0.mk (Kd.zZ (by (with_reducible repeat (first | apply Kd.zL | apply Kd.zM | apply Kd.zN)); exact HO357.out) hb)
            have n1_ := Aside0.mk (Kd.zA (by (with_reducible repeat (first | apply Kd.qK | apply Kd.qJ | apply Kd.qL)); exact HO360.out) hb)
            have n2_ := Aside0.mk (Kd.zA (by (with_reducible repeat (first | apply Kd.qK | apply Kd.qJ | apply Kd.qL)); exact HO368.out) hb)
            have n3_ := Aside0.mk (Kd.zA (by (with_reducible repeat (first | apply Kd.qK | apply Kd.qJ | apply Kd.qL)); exact HO371.out) hb)
            have n4_ := Aside0.mk (Kd.zA (by (with_reducible repeat (first | apply Kd.qK | apply Kd.qJ | apply Kd.qL)); exact HO377.out) hb)
            have n5_ := Aside0.mk (Kd.zA (by (with_reducible repeat (first | apply Kd.qK | apply Kd.qJ | apply Kd.qL)); exact HO380.out) hb)
            have n6_ := Aside0.mk (qM (g := gb365) (o := .cells #[.slice Ao8 t355.length co8, .slice Ao10 t358.length co10, .int .i64 t361, .int .i64 t362] 26 (0, 0)) (by (with_reducible repeat (first | refine qC ?_ _ | refine qF ?_ | refine qA ?_ _)); exact BK365.out) hb)
            have n7_ := Aside0.mk (qM (g := gb374) (o := .cells #[.slice Ao13 t366.length co13, .slice Ao16 t369.length co16, .int .i64 t372, .int .i64 t373] 26 (0, 0)) (by (with_reducible repeat (first | refine qC ?_ _ | refine qF ?_ | refine qA ?_ _)); exact BK374.out) hb)
            have n8_ := Aside0.mk (qO (by repeat (first | (with_reducible first | exact HB.out | apply qI | apply qD | apply qH | refine qG ?_ GE365.out | refine qG ?_ GE374.out) | exact HB.out)) hb)
            clear HO357
            clear HO360
            clear HO368
            clear HO371
            clear HO377
            clear HO380
            clear BK365
            clear BK374
            clear HB
            have HO357 := n0_
            have HO360 := n1_
            have HO368 := n2_
            have HO371 := n3_
            have HO377 := n4_
            have HO380 := n5_
            have BK365 := n6_
            have BK374 := n7_
            have HB := n8_
            clear n0_ n1_ n2_ n3_ n4_ n5_ n6_ n7_ n8_
            (try clear hb)
            (try clear hb2)
            (try clear hk)
            (try clear hi)
            refine hK.out _ _ ⟨(qB BK374.out 0).trans rfl, (qB BK374.out 1).trans rfl, (qB BK374.out 2).trans rfl, (qB BK374.out 3).trans rfl, (qB BK365.out 0).trans rfl, (qB BK365.out 1).trans rfl, (qB BK365.out 2).trans rfl, (qB BK365.out 3).trans rfl⟩ (fun hHeld => ?_)
            clear hK K
            refine norm_ (a' := ?_) ?_ ?_
            rotate_left
            · show Act.put _ (some 32) _ = _
              simp only [Act.put, List.setIfInBounds_toArray, List.set_cons_zero, List.set_cons_succ, i64_w, i32_w]
              rfl
            refine pure_ (i := 9) (N := some 33) (v := ?_) (a' := ?_) #[true, true, true, true, true, true, true, true, true, true, false, false, false, false, false, false, false, false, false, false, false, false, false, false, false] rfl rfl (zE HT_.out (by kernel_rfl)) (fun _ _ _ h => h) (Or.inl ⟨by rfl, ?_⟩) ?_ ?_
            rotate_left
            · intro w'
              go_simp
              with_reducible rfl
            rotate_left
            · simp only [Act.put, List.setIfInBounds_toArray, List.set_cons_zero, List.set_cons_succ, i64_w, i32_w]
              rfl
            refine pure_ (i := 10) (N := some 34) (v := ?_) (a' := ?_) #[true, true, true, true, true, true, true, true, true, true, true, false, false, false, false, false, false, false, false, false, false, false, false, false, false] rfl rfl (zE HT_.out (by kernel_rfl)) (fun _ _ _ h => h) (Or.inl ⟨by rfl, ?_⟩) ?_ ?_
            rotate_left
            · intro w'
              go_simp
              with_reducible rfl
            rotate_left
            · simp only [Act.put, List.setIfInBounds_toArray, List.set_cons_zero, List.set_cons_succ, i64_w, i32_w]
              rfl
            refine pure_ (i := 11) (N := some 35) (v := ?_) (a' := ?_) #[true, true, true, true, true, true, true, true, true, true, true, true, false, false, false, false, false, false, false, false, false, false, false, false, false] rfl rfl (zE HT_.out (by kernel_rfl)) (fun _ _ _ h => h) (Or.inl ⟨by rfl, ?_⟩) ?_ ?_
            rotate_left
            · intro w'
              go_simp
              with_reducible rfl
            rotate_left
            · simp only [Act.put, List.setIfInBounds_toArray, List.set_cons_zero, List.set_cons_succ, i64_w, i32_w]
              rfl
            refine pure_ (i := 12) (N := some 36) (v := ?_) (a' := ?_) #[true, true, true, true, true, true, true, true, true, true, true, true, true, false, false, false, false, false, false, false, false, false, false, false, false] rfl rfl (zE HT_.out (by kernel_rfl)) (fun _ _ _ h => h) (Or.inl ⟨by rfl, ?_⟩) ?_ ?_
            rotate_left
            · intro w'
              go_simp
              with_reducible rfl
            rotate_left
            · simp only [Act.put, List.setIfInBounds_toArray, List.set_cons_zero, List.set_cons_succ, i64_w, i32_w]
              rfl
            refine pure_ (i := 13) (N := some 37) (v := ?_) (a' := ?_) #[true, true, true, true, true, true, true, true, true, true, true, true, true, true, false, false, false, false, false, false, false, false, false, false, false] rfl rfl (zE HT_.out (by kernel_rfl)) (fun _ _ _ h => h) (Or.inl ⟨by rfl, ?_⟩) ?_ ?_
            rotate_left
            · intro w'
              go_simp
              with_reducible rfl
            rotate_left
            · simp only [Act.put, List.setIfInBounds_toArray, List.set_cons_zero, List.set_cons_succ, i64_w, i32_w]
              rfl
            refine pure_ (i := 14) (N := some 38) (v := ?_) (a' := ?_) #[true, true, true, true, true, true, true, true, true, true, true, true, true, true, true, false, false, false, false, false, false, false, false, false, false] rfl rfl (zE HT_.out (by kernel_rfl)) (fun _ _ _ h => h) (Or.inl ⟨by rfl, ?_⟩) ?_ ?_
            rotate_left
            · intro w'
              go_simp
              with_reducible rfl
            rotate_left
            · simp only [Act.put, List.setIfInBounds_toArray, List.set_cons_zero, List.set_cons_succ, i64_w, i32_w]
              rfl
            refine pure_ (i := 15) (N := some 39) (v := ?_) (a' := ?_) #[true, true, true, true, true, true, true, true, true, true, true, true, true, true, true, true, false, false, false, false, false, false, false, false, false] rfl rfl (zE HT_.out (by kernel_rfl)) (fun _ _ _ h => h) (Or.inl ⟨by rfl, ?_⟩) ?_ ?_
            rotate_left
            · intro w'
              go_simp
              with_reducible rfl
            rotate_left
            · simp only [Act.put, List.setIfInBounds_toArray, List.set_cons_zero, List.set_cons_succ, i64_w, i32_w]
              rfl
            refine pure_ (i := 16) (N := some 40) (v := undef) (a' := ?_) #[true, true, true, true, true, true, true, true, true, true, true, true, true, true, true, true, true, false, false, false, false, false, false, false, false] rfl rfl (zE HT_.out (by kernel_rfl)) (fun _ _ _ h => h) (Or.inr ⟨by rfl, rfl⟩) ?_ ?_
            rotate_left
            · simp only [Act.put, List.setIfInBounds_toArray, List.set_cons_zero, List.set_cons_succ, i64_w, i32_w]
              rfl
            refine pure_ (i := 17) (N := some 41) (v := undef) (a' := ?_) #[true, true, true, true, true, true, true, true, true, true, true, true, true, true, true, true, true, true, false, false, false, false, false, false, false] rfl rfl (zE HT_.out (by kernel_rfl)) (fun _ _ _ h => h) (Or.inr ⟨by rfl, rfl⟩) ?_ ?_
            rotate_left
            · simp only [Act.put, List.setIfInBounds_toArray, List.set_cons_zero, List.set_cons_succ, i64_w, i32_w]
              rfl
            refine pure_ (i := 18) (N := some 42) (v := ?_) (a' := ?_) #[true, true, true, true, true, true, true, true, true, true, true, true, true, true, true, true, true, true, true, false, false, false, false, false, false] rfl rfl (zE HT_.out (by kernel_rfl)) (fun _ _ _ h => h) (Or.inl ⟨by rfl, ?_⟩) ?_ ?_
            rotate_left
            · intro w'
              go_simp
              with_reducible rfl
            rotate_left
            · simp only [Act.put, List.setIfInBounds_toArray, List.set_cons_zero, List.set_cons_succ, i64_w, i32_w]
              rfl
            refine pure_ (i := 19) (N := some 43) (v := ?_) (a' := ?_) #[true, true, true, true, true, true, true, true, true, true, true, true, true, true, true, true, true, true, true, true, false, false, false, false, false] rfl rfl (zE HT_.out (by kernel_rfl)) (fun _ _ _ h => h) (Or.inl ⟨by rfl, ?_⟩) ?_ ?_
            rotate_left
            · intro w'
              go_simp
              with_reducible rfl
            rotate_left
            · simp only [Act.put, List.setIfInBounds_toArray, List.set_cons_zero, List.set_cons_succ, i64_w, i32_w]
              rfl
            refine pure_ (i := 20) (N := some 44) (v := undef) (a' := ?_) #[true, true, true, true, true, true, true, true, true, true, true, true, true, true, true, true, true, true, true, true, true, false, false, false, false] rfl rfl (zE HT_.out (by kernel_rfl)) (fun _ _ _ h => h) (Or.inr ⟨by rfl, rfl⟩) ?_ ?_
            rotate_left
            · simp only [Act.put, List.setIfInBounds_toArray, List.set_cons_zero, List.set_cons_succ, i64_w, i32_w]
              rfl
            refine pure_ (i := 21) (N := some 45) (v := undef) (a' := ?_) #[true, true, true, true, true, true, true, true, true, true, true, true, true, true, true, true, true, true, true, true, true, true, false, false, false] rfl rfl (zE HT_.out (by kernel_rfl)) (fun _ _ _ h => h) (Or.inr ⟨by rfl, rfl⟩) ?_ ?_
            rotate_left
            · simp only [Act.put, List.setIfInBounds_toArray, List.set_cons_zero, List.set_cons_succ, i64_w, i32_w]
              rfl
            refine pure_ (i := 22) (N := some 46) (v := undef) (a' := ?_) #[true, true, true, true, true, true, true, true, true, true, true, true, true, true, true, true, true, true, true, true, true, true, true, false, false] rfl rfl (zE HT_.out (by kernel_rfl)) (fun _ _ _ h => h) (Or.inr ⟨by rfl, rfl⟩) ?_ ?_
            rotate_left
            · simp only [Act.put, List.setIfInBounds_toArray, List.set_cons_zero, List.set_cons_succ, i64_w, i32_w]
              rfl
            refine pure_ (i := 23) (N := some 47) (v := undef) (a' := ?_) #[true, true, true, true, true, true, true, true, true, true, true, true, true, true, true, true, true, true, true, true, true, true, true, true, false] rfl rfl (zE HT_.out (by kernel_rfl)) (fun _ _ _ h => h) (Or.inr ⟨by rfl, rfl⟩) ?_ ?_
            rotate_left
            · simp only [Act.put, List.setIfInBounds_toArray, List.set_cons_zero, List.set_cons_succ, i64_w, i32_w]
              rfl
            refine pure_ (i := 24) (N := some 48) (v := ?_) (a' := ?_) #[true, true, true, true, true, true, true, true, true, true, true, true, true, true, true, true, true, true, true, true, true, true, true, true, true] rfl rfl (zE HT_.out (by kernel_rfl)) (fun _ _ _ h => h) (Or.inl ⟨by rfl, ?_⟩) ?_ ?_
            rotate_left
            · intro w'
              go_simp
              with_reducible rfl
            rotate_left
            · simp only [Act.put, List.setIfInBounds_toArray, List.set_cons_zero, List.set_cons_succ, i64_w, i32_w]
              rfl
            refine done_ (done_of HT_.out (by kernel_rfl)) ?_
            try go_wp2
            go_meet
            case rel => exact ⟨_, (true), (by first | rfl | (simp; done) | (simp [*]; done)), H', ⟨by first | omega | exact Nat.le_refl _⟩, ⟨by (with_reducible repeat (first | apply Kd.zL | apply Kd.zM | apply Kd.zN)); exact Kd.zX HO357.out (fun _ hk => hk.1)⟩, ⟨by (with_reducible repeat (first | apply Kd.qK | apply Kd.qJ | apply Kd.qL)); exact Kd.qV HO360.out (fun _ hk => hk.1)⟩, ⟨Kd.Q_of_R (by (with_reducible repeat (first | apply Kd.qK | apply Kd.qJ | apply Kd.qL)); exact Kd.qV HO368.out (fun _ hk => hk.1))⟩, ⟨by (with_reducible repeat (first | apply Kd.qK | apply Kd.qJ | apply Kd.qL)); exact Kd.qV HO371.out (fun _ hk => hk.1)⟩, ⟨by (with_reducible repeat (first | refine qC ?_ _ | refine qF ?_ | refine qA ?_ _)); exact BK365.out⟩, ⟨by (with_reducible repeat (first | refine qC ?_ _ | refine qF ?_ | refine qA ?_ _)); exact BK374.out⟩, ⟨by repeat (first | (with_reducible first | exact HB.out | apply qI | apply qD | apply qH | refine qG ?_ GE365.out | refine qG ?_ GE374.out) | exact HB.out)⟩⟩
          · rw [if_neg c22] at H
            have c22b0 : decide (t363 < 0) = false := decide_eq_false c22
            clear c22
            (first | rw [c22b0] | (simp only [i64_w, i32_w]; rw [c22b0]) | skip)
            by_cases c30 : t364 < (-5)
            · rw [if_pos c30] at H
              have c30b0 : decide (t364 < (-5)) = true := decide_eq_true c30
              clear c30
              have H' := Aside0.mk H
              clear H
              try go_wp2
              have n0_ : Aside0 (Kd.Q Kd.string 9 ((((w12.setCell ⟨gb374, 0, none⟩ (.slice Ao13 t366.length co13)).setCell ⟨gb374, 1, none⟩ (.slice Ao16 t369.length co16)).setCell ⟨gb374, 2, none⟩ (.int .i64 t372)).setCell ⟨gb374, 3, none⟩ (.int .i64 t373)) w.heap.size (fun k_ => some k_ ≠ (.slice Ao13 t366.length co13 : Value).ownBlock) (.slice Ao8 t355.length co8) t355) := ⟨by (with_reducible repeat (first | apply Kd.zL | apply Kd.zM | apply Kd.zN)); exact Kd.zX (Kd.Q_far (p := ⟨gb374, 3, none⟩) (Kd.Q_far (p := ⟨gb374, 2, none⟩) (Kd.Q_far (p := ⟨gb374, 1, none⟩) (Kd.Q_far (p := ⟨gb374, 0, none⟩) (Kd.xB HO357.out BK374.out (by decide)) (fun _ hk => hk.2) (.slice Ao13 t366.length co13)) (fun _ hk => hk.2) (.slice Ao16 t369.length co16)) (fun _ hk => hk.2) (.int .i64 t372)) (fun _ hk => hk.2) (.int .i64 t373)) (fun _ hk => hk.1.2)⟩
              have n1_ : Aside0 (Kd.R k70 70 ((((w12.setCell ⟨gb374, 0, none⟩ (.slice Ao13 t366.length co13)).setCell ⟨gb374, 1, none⟩ (.slice Ao16 t369.length co16)).setCell ⟨gb374, 2, none⟩ (.int .i64 t372)).setCell ⟨gb374, 3, none⟩ (.int .i64 t373)) w.heap.size (fun k_ => some k_ ≠ (.slice Ao16 t369.length co16 : Value).ownBlock) (.slice Ao10 t358.length co10) t358) := ⟨by (with_reducible repeat (first | apply Kd.qK | apply Kd.qJ | apply Kd.qL)); exact Kd.qV (Kd.R_far (p := ⟨gb374, 3, none⟩) (Kd.R_far (p := ⟨gb374, 2, none⟩) (Kd.R_far (p := ⟨gb374, 1, none⟩) (Kd.R_far (p := ⟨gb374, 0, none⟩) (Kd.qX HO360.out BK374.out (by decide)) (fun _ hk => hk.2) (.slice Ao13 t366.length co13)) (fun _ hk => hk.2) (.slice Ao16 t369.length co16)) (fun _ hk => hk.2) (.int .i64 t372)) (fun _ hk => hk.2) (.int .i64 t373)) (fun _ hk => hk.1.2)⟩
              have n2_ : Aside0 (Kd.R Kd.string 9 ((((w12.setCell ⟨gb374, 0, none⟩ (.slice Ao13 t366.length co13)).setCell ⟨gb374, 1, none⟩ (.slice Ao16 t369.length co16)).setCell ⟨gb374, 2, none⟩ (.int .i64 t372)).setCell ⟨gb374, 3, none⟩ (.int .i64 t373)) w.heap.size (fun k_ => some k_ ≠ (.slice Ao8 t355.length co8 : Value).ownBlock) (.slice Ao13 t366.length co13) t366) := ⟨by (with_reducible repeat (first | apply Kd.qK | apply Kd.qJ | apply Kd.qL)); exact Kd.qV (Kd.R_far (p := ⟨gb374, 3, none⟩) (Kd.R_far (p := ⟨gb374, 2, none⟩) (Kd.R_far (p := ⟨gb374, 1, none⟩) (Kd.R_far (p := ⟨gb374, 0, none⟩) (Kd.qX HO368.out BK374.out (by decide)) (fun _ hk => hk.2) (.slice Ao13 t366.length co13)) (fun _ hk => hk.2) (.slice Ao16 t369.length co16)) (fun _ hk => hk.2) (.int .i64 t372)) (fun _ hk => hk.2) (.int .i64 t373)) (fun _ hk => hk.1.2)⟩
              have n3_ : Aside0 (Kd.R k70 70 ((((w12.setCell ⟨gb374, 0, none⟩ (.slice Ao13 t366.length co13)).setCell ⟨gb374, 1, none⟩ (.slice Ao16 t369.length co16)).setCell ⟨gb374, 2, none⟩ (.int .i64 t372)).setCell ⟨gb374, 3, none⟩ (.int .i64 t373)) w.heap.size (fun k_ => some k_ ≠ (.slice Ao10 t358.length co10 : Value).ownBlock) (.slice Ao16 t369.length co16) t369) := ⟨by (with_reducible repeat (first | apply Kd.qK | apply Kd.qJ | apply Kd.qL)); exact Kd.qV (Kd.R_far (p := ⟨gb374, 3, none⟩) (Kd.R_far (p := ⟨gb374, 2, none⟩) (Kd.R_far (p := ⟨gb374, 1, none⟩) (Kd.R_far (p := ⟨gb374, 0, none⟩) (Kd.qX HO371.out BK374.out (by decide)) (fun _ hk => hk.2) (.slice Ao13 t366.length co13)) (fun _ hk => hk.2) (.slice Ao16 t369.length co16)) (fun _ hk => hk.2) (.int .i64 t372)) (fun _ hk => hk.2) (.int .i64 t373)) (fun _ hk => hk.1.2)⟩
              have n4_ : Aside0 (((((w12.setCell ⟨gb374, 0, none⟩ (.slice Ao13 t366.length co13)).setCell ⟨gb374, 1, none⟩ (.slice Ao16 t369.length co16)).setCell ⟨gb374, 2, none⟩ (.int .i64 t372)).setCell ⟨gb374, 3, none⟩ (.int .i64 t373)).heap[gb365]? = some (.cells #[.slice Ao8 t355.length co8, .slice Ao10 t358.length co10, .int .i64 t361, .int .i64 t362] 26 (0, 0))) := ⟨by (with_reducible repeat (first | refine qC ?_ _ | refine qF ?_ | refine qA ?_ _)); refine qU ?_ NB365_374.out _; (with_reducible repeat (first | refine qC ?_ _ | refine qF ?_ | refine qA ?_ _)); refine qU ?_ NB365_374.out _; (with_reducible repeat (first | refine qC ?_ _ | refine qF ?_ | refine qA ?_ _)); refine qU ?_ NB365_374.out _; (with_reducible repeat (first | refine qC ?_ _ | refine qF ?_ | refine qA ?_ _)); refine qU ?_ NB365_374.out _; (with_reducible repeat (first | refine qC ?_ _ | refine qF ?_ | refine qA ?_ _)); exact BK365.out⟩
              have n5_ : Aside0 (((((w12.setCell ⟨gb374, 0, none⟩ (.slice Ao13 t366.length co13)).setCell ⟨gb374, 1, none⟩ (.slice Ao16 t369.length co16)).setCell ⟨gb374, 2, none⟩ (.int .i64 t372)).setCell ⟨gb374, 3, none⟩ (.int .i64 t373)).heap[gb374]? = some (.cells #[.slice Ao13 t366.length co13, .slice Ao16 t369.length co16, .int .i64 t372, .int .i64 t373] 26 (0, 0))) := ⟨by (with_reducible repeat (first | refine qC ?_ _ | refine qF ?_ | refine qA ?_ _)); refine qR (cs := #[.slice Ao13 t366.length co13, .slice Ao16 t369.length co16, .int .i64 t372, .int .i64 0]) ?_ 3 _ rfl; (with_reducible repeat (first | refine qC ?_ _ | refine qF ?_ | refine qA ?_ _)); refine qR (cs := #[.slice Ao13 t366.length co13, .slice Ao16 t369.length co16, .int .i64 0, .int .i64 0]) ?_ 2 _ rfl; (with_reducible repeat (first | refine qC ?_ _ | refine qF ?_ | refine qA ?_ _)); refine qR (cs := #[.slice Ao13 t366.length co13, .slice none 0 0, .int .i64 0, .int .i64 0]) ?_ 1 _ rfl; (with_reducible repeat (first | refine qC ?_ _ | refine qF ?_ | refine qA ?_ _)); refine qR (cs := #[.slice none 0 0, .slice none 0 0, .int .i64 0, .int .i64 0]) ?_ 0 _ rfl; (with_reducible repeat (first | refine qC ?_ _ | refine qF ?_ | refine qA ?_ _)); exact BK374.out⟩
              have n6_ : Aside0 (Below w.heap.size w ((((w12.setCell ⟨gb374, 0, none⟩ (.slice Ao13 t366.length co13)).setCell ⟨gb374, 1, none⟩ (.slice Ao16 t369.length co16)).setCell ⟨gb374, 2, none⟩ (.int .i64 t372)).setCell ⟨gb374, 3, none⟩ (.int .i64 t373))) := ⟨by repeat (first | (with_reducible first | exact HB.out | apply qI | apply qD | apply qH | refine qG ?_ GE365.out | refine qG ?_ GE374.out) | exact HB.out)⟩
              (try clear HO357)
              (try clear HO360)
              (try clear HO368)
              (try clear HO371)
              (try clear BK365)
              (try clear BK374)
              (try clear HB)
              generalize ((((w12.setCell ⟨gb374, 0, none⟩ (.slice Ao13 t366.length co13)).setCell ⟨gb374, 1, none⟩ (.slice Ao16 t369.length co16)).setCell ⟨gb374, 2, none⟩ (.int .i64 t372)).setCell ⟨gb374, 3, none⟩ (.int .i64 t373)) = w31 at n0_ n1_ n2_ n3_ n4_ n5_ n6_ ⊢
              have HO357 := n0_
              have HO360 := n1_
              have HO368 := n2_
              have HO371 := n3_
              have BK365 := n4_
              have BK374 := n5_
              have HB := n6_
              clear n0_ n1_ n2_ n3_ n4_ n5_ n6_
              have n0_ := Aside0.mk (Kd.zN HO357.out)
              have n1_ := Aside0.mk (Kd.qL HO360.out)
              have n2_ := Aside0.mk (Kd.qL HO368.out)
              have n3_ := Aside0.mk (Kd.qL HO371.out)
              have n4_ := Aside0.mk (qF BK365.out)
              have n5_ := Aside0.mk (qF BK374.out)
              have n6_ := Aside0.mk (qH HB.out)
              clear HO357
              clear HO360
              clear HO368
              clear HO371
              clear BK365
              clear BK374
              clear HB
              have HO357 := n0_
              have HO360 := n1_
              have HO368 := n2_
              have HO371 := n3_
              have BK365 := n4_
              have BK374 := n5_
              have HB := n6_
              clear n0_ n1_ n2_ n3_ n4_ n5_ n6_
              refine start_ (n := 25) (S := fun w' => w'.cell? ⟨gb374, 0, none⟩ = some (.slice Ao13 t366.length co13) ∧ w'.cell? ⟨gb374, 1, none⟩ = some (.slice Ao16 t369.length co16) ∧ w'.cell? ⟨gb374, 2, none⟩ = some (.int .i64 t372) ∧ w'.cell? ⟨gb374, 3, none⟩ = some (.int .i64 t373) ∧ w'.cell? ⟨gb365, 0, none⟩ = some (.slice Ao8 t355.length co8) ∧ w'.cell? ⟨gb365, 1, none⟩ = some (.slice Ao10 t358.length co10) ∧ w'.cell? ⟨gb365, 2, none⟩ = some (.int .i64 t361) ∧ w'.cell? ⟨gb365, 3, none⟩ = some (.int .i64 t362)) (ds := []) #[false, false, false, false, false, false, false, false, false, false, false, false, false, false, false, false, false, false, false, false, false, false, false, false, false] (by kernel_rfl) rfl rfl ⟨(qB BK374.out 0).trans rfl, (qB BK374.out 1).trans rfl, (qB BK374.out 2).trans rfl, (qB BK374.out 3).trans rfl, (qB BK365.out 0).trans rfl, (qB BK365.out 1).trans rfl, (qB BK365.out 2).trans rfl, (qB BK365.out 3).trans rfl⟩ (fun hHeld => ?_); refine xH laws_FnDiskRoom.tab5 laws_FnDiskRoom.bits5 (fun HT_ HW_ => ?_)
              generalize w31.drew = w32 at HO357 HO360 HO368 HO371 BK365 BK374 HB hHeld ⊢
              refine pure_ (i := 2) (N := some 26) (v := ?_) (a' := ?_) #[false, false, true, false, false, false, false, false, false, false, false, false, false, false, false, false, false, false, false, false, false, false, false, false, false] rfl rfl (zE HT_.out (by kernel_rfl)) (fun _ _ _ h => h) (Or.inl ⟨by rfl, ?_⟩) ?_ ?_
              rotate_left
              · intro w'
                go_simp
                with_reducible rfl
              rotate_left
              · simp only [Act.put, List.setIfInBounds_toArray, List.set_cons_zero, List.set_cons_succ, i64_w, i32_w]
                rfl
              refine take_ (i := 0) (N := some 24) (v := ?_) (a' := ?_) #[true, false, true, false, false, false, false, false, false, false, false, false, false, false, false, false, false, false, false, false, false, false, false, false, false] rfl rfl (zU HT_.out HW_.out (by kernel_rfl)) (fun _ _ _ h => h) (Or.inl ⟨by rfl, ?_⟩) hHeld ?_ ?_
              rotate_left
              · rintro w' ⟨s0, s1, s2, s3, s4, s5, s6, s7⟩
                go_simp
                with_reducible rfl
              rotate_left
              · simp only [Act.put, List.setIfInBounds_toArray, List.set_cons_zero, List.set_cons_succ, i64_w, i32_w]
                rfl
              refine take_ (i := 1) (N := some 25) (v := ?_) (a' := ?_) #[true, true, true, false, false, false, false, false, false, false, false, false, false, false, false, false, false, false, false, false, false, false, false, false, false] rfl rfl (zU HT_.out HW_.out (by kernel_rfl)) (fun _ _ _ h => h) (Or.inl ⟨by rfl, ?_⟩) hHeld ?_ ?_
              rotate_left
              · rintro w' ⟨s0, s1, s2, s3, s4, s5, s6, s7⟩
                go_simp
                with_reducible rfl
              rotate_left
              · simp only [Act.put, List.setIfInBounds_toArray, List.set_cons_zero, List.set_cons_succ, i64_w, i32_w]
                rfl
              refine one_ (i := 3) (N := some 27) #[true, true, true, true, false, false, false, false, false, false, false, false, false, false, false, false, false, false, false, false, false, false, false, false, false] rfl rfl (zW HT_.out (by kernel_rfl)) (by decide) (fun K hK => ?_)
              refine goes_ Try.func14 (by kernel_rfl) rfl #[.agg #[.slice Ao8 t355.length co8, .slice Ao10 t358.length co10, .int .i64 t361, .int .i64 t362], .int .i64 t363, .int .i64 (-1)] (by rfl) rfl rfl (by (try simp only [List.map_toArray, List.map_cons, List.map_nil]); first | done | rfl | (simp only [List.length_drop, List.length_take]; rfl)) ?_
              with_reducible refine (spec_DiskSet.calls k _ _ t355 _ _ t358 t361 t362 t363 (-1) t375 t378 t381 t382 _ ?side1 ?side2 ?side3 ?side4 A17.out).mono ?_
              (case side1 => repeat (first | exact (Kd.zQ HO357.out).2.2 | (with_reducible refine Kd.zC ?_ _) | (with_reducible refine Kd.zD ?_ _) | (with_reducible refine Kd.zH ?_)))
              (case side2 => exact (Kd.zQ HO357.out).2.1)
              (case side3 => repeat (first | exact (Kd.qW HO360.out).2.2 | (with_reducible refine Kd.zC ?_ _) | (with_reducible refine Kd.zD ?_ _) | (with_reducible refine Kd.zH ?_)))
              (case side4 => exact (Kd.qW HO360.out).2.1)
              rintro e w33 ⟨v376, v379, rfl, ho0, ho1, hb⟩
              refine ⟨_, rfl, ?_⟩
              have n0_ := Aside0.mk (Kd.xF (by (with_reducible repeat (first | apply Kd.zL | apply Kd.zM | apply Kd.zN)); exact HO357.out) (Kd.zS ho0) hb)
              have n1_ := Aside0.mk (Kd.zR (by (with_reducible repeat (first | apply Kd.qK | apply Kd.qJ | apply Kd.qL)); exact HO360.out) (Kd.zS ho1) hb)
              have n2_ := Aside0.mk (Kd.zR (by (with_reducible repeat (first | apply Kd.qK | apply Kd.qJ | apply Kd.qL)); exact HO368.out) (Kd.zS ho0) hb)
              have n3_ := Aside0.mk (Kd.zR (by (with_reducible repeat (first | apply Kd.qK | apply Kd.qJ | apply Kd.qL)); exact HO371.out) (Kd.zS ho1) hb)
              have n4_ := Aside0.mk (Kd.zJ (Kd.zT (Kd.zT ho0 (Kd.Q_lt (by (with_reducible repeat (first | apply Kd.zL | apply Kd.zM | apply Kd.zN)); exact HO357.out))) (Kd.R_lt (by (with_reducible repeat (first | apply Kd.qK | apply Kd.qJ | apply Kd.qL)); exact HO368.out))) (qN (by repeat (first | (with_reducible first | exact HB.out | apply qI | apply qD | apply qH | refine qG ?_ GE365.out | refine qG ?_ GE374.out) | exact HB.out))))
              have n5_ := Aside0.mk (Kd.zJ (Kd.zT (Kd.zT ho1 (Kd.R_lt (by (with_reducible repeat (first | apply Kd.qK | apply Kd.qJ | apply Kd.qL)); exact HO360.out))) (Kd.R_lt (by (with_reducible repeat (first | apply Kd.qK | apply Kd.qJ | apply Kd.qL)); exact HO371.out))) (qN (by repeat (first | (with_reducible first | exact HB.out | apply qI | apply qD | apply qH | refine qG ?_ GE365.out | refine qG ?_ GE374.out) | exact HB.out))))
              have n6_ := Aside0.mk (qM (g := gb365) (o := .cells #[.slice Ao8 t355.length co8, .slice Ao10 t358.length co10, .int .i64 t361, .int .i64 t362] 26 (0, 0)) (by (with_reducible repeat (first | refine qC ?_ _ | refine qF ?_ | refine qA ?_ _)); exact BK365.out) hb)
              have n7_ := Aside0.mk (qM (g := gb374) (o := .cells #[.slice Ao13 t366.length co13, .slice Ao16 t369.length co16, .int .i64 t372, .int .i64 t373] 26 (0, 0)) (by (with_reducible repeat (first | refine qC ?_ _ | refine qF ?_ | refine qA ?_ _)); exact BK374.out) hb)
              have n8_ := Aside0.mk (qO (by repeat (first | (with_reducible first | exact HB.out | apply qI | apply qD | apply qH | refine qG ?_ GE365.out | refine qG ?_ GE374.out) | exact HB.out)) hb)
              clear HO357
              clear HO360
              clear HO368
              clear HO371
              clear BK365
              clear BK374
              clear HB
              have HO357 := n0_
              have HO360 := n1_
              have HO368 := n2_
              have HO371 := n3_
              have HO377 := n4_
              have HO380 := n5_
              have BK365 := n6_
              have BK374 := n7_
              have HB := n8_
              clear n0_ n1_ n2_ n3_ n4_ n5_ n6_ n7_ n8_
              (try clear hb)
              (try clear hb2)
              (try clear hk)
              (try clear hi)
              (try clear ho0)
              (try clear ho1)
              obtain ⟨Ao34, co34, eo34⟩ := Kd.zF HO377.out
              (first | subst eo34 | (injection eo34 with f1_ f2_ f3_; have f4_ := f1_.symm; have f5_ := f3_.symm; clear f1_ f2_ f3_; subst f4_; subst f5_))
              obtain ⟨Ao35, co35, eo35⟩ := Kd.zF HO380.out
              (first | subst eo35 | (injection eo35 with f1_ f2_ f3_; have f4_ := f1_.symm; have f5_ := f3_.symm; clear f1_ f2_ f3_; subst f4_; subst f5_))
              refine hK.out _ _ ⟨(qB BK374.out 0).trans rfl, (qB BK374.out 1).trans rfl, (qB BK374.out 2).trans rfl, (qB BK374.out 3).trans rfl, (qB BK365.out 0).trans rfl, (qB BK365.out 1).trans rfl, (qB BK365.out 2).trans rfl, (qB BK365.out 3).trans rfl⟩ (fun hHeld => ?_)
              clear hK K
              refine norm_ (a' := ?_) ?_ ?_
              rotate_left
              · show Act.put _ (some 27) _ = _
                simp only [Act.put, List.setIfInBounds_toArray, List.set_cons_zero, List.set_cons_succ, i64_w, i32_w]
                rfl
              refine one_ (i := 4) (N := some 28) #[true, true, true, true, true, false, false, false, false, false, false, false, false, false, false, false, false, false, false, false, false, false, false, false, false] rfl rfl (zW HT_.out (by kernel_rfl)) (by decide) (fun K hK => ?_)
              refine goes_ Try.func13 (by kernel_rfl) rfl #[.agg #[.slice Ao13 t366.length co13, .slice Ao16 t369.length co16, .int .i64 t372, .int .i64 t373], .agg #[.slice Ao34 t375.length co34, .slice Ao35 t378.length co35, .int .i64 t381, .int .i64 t382]] (by rfl) rfl rfl (by (try simp only [List.map_toArray, List.map_cons, List.map_nil]); first | done | rfl | (simp only [List.length_drop, List.length_take]; rfl)) ?_
              with_reducible refine (laws_jtDisk.calls k _ _ t366 _ _ t369 t372 t373 _ _ t375 _ _ t378 t381 t382 true _ ?side1 ?side2 ?side3 ?side4 ?side5 ?side6 ?side7 ?side8 A18.out).mono ?_
              (case side1 => repeat (first | exact (Kd.qW HO368.out).2.2 | (with_reducible refine Kd.zC ?_ _) | (with_reducible refine Kd.zD ?_ _) | (with_reducible refine Kd.zH ?_)))
              (case side2 => exact (Kd.qW HO368.out).2.1)
              (case side3 => repeat (first | exact (Kd.qW HO371.out).2.2 | (with_reducible refine Kd.zC ?_ _) | (with_reducible refine Kd.zD ?_ _) | (with_reducible refine Kd.zH ?_)))
              (case side4 => exact (Kd.qW HO371.out).2.1)
              (case side5 => repeat (first | exact (Kd.qW HO377.out).2.2 | (with_reducible refine Kd.zC ?_ _) | (with_reducible refine Kd.zD ?_ _) | (with_reducible refine Kd.zH ?_)))
              (case side6 => exact (Kd.qW HO377.out).2.1)
              (case side7 => repeat (first | exact (Kd.qW HO380.out).2.2 | (with_reducible refine Kd.zC ?_ _) | (with_reducible refine Kd.zD ?_ _) | (with_reducible refine Kd.zH ?_)))
              (case side8 => exact (Kd.qW HO380.out).2.1)
              rintro e w36 ⟨rfl, hb⟩
              refine ⟨_, rfl, ?_⟩
              have n0_ := Aside0.mk (Kd.zZ (by (with_reducible repeat (first | apply Kd.zL | apply Kd.zM | apply Kd.zN)); exact HO357.out) hb)
              have n1_ := Aside0.mk (Kd.zA (by (with_reducible repeat (first | apply Kd.qK | apply Kd.qJ | apply Kd.qL)); exact HO360.out) hb)
              have n2_ := Aside0.mk (Kd.zA (by (with_reducible repeat (first | apply Kd.qK | apply Kd.qJ | apply Kd.qL)); exact HO368.out) hb)
              have n3_ := Aside0.mk (Kd.zA (by (with_reducible repeat (first | apply Kd.qK | apply Kd.qJ | apply Kd.qL)); exact HO371.out) hb)
              have n4_ := Aside0.mk (Kd.zA (by (with_reducible repeat (first | apply Kd.qK | apply Kd.qJ | apply Kd.qL)); exact HO377.out) hb)
              have n5_ := Aside0.mk (Kd.zA (by (with_reducible repeat (first | apply Kd.qK | apply Kd.qJ | apply Kd.qL)); exact HO380.out) hb)
              have n6_ := Aside0.mk (qM (g := gb365) (o := .cells #[.slice Ao8 t355.length co8, .slice Ao10 t358.length co10, .int .i64 t361, .int .i64 t362] 26 (0, 0)) (by (with_reducible repeat (first | refine qC ?_ _ | refine qF ?_ | refine qA ?_ _)); exact BK365.out) hb)
              have n7_ := Aside0.mk (qM (g := gb374) (o := .cells #[.slice Ao13 t366.length co13, .slice Ao16 t369.length co16, .int .i64 t372, .int .i64 t373] 26 (0, 0)) (by (with_reducible repeat (first | refine qC ?_ _ | refine qF ?_ | refine qA ?_ _)); exact BK374.out) hb)
              have n8_ := Aside0.mk (qO (by repeat (first | (with_reducible first | exact HB.out | apply qI | apply qD | apply qH | refine qG ?_ GE365.out | refine qG ?_ GE374.out) | exact HB.out)) hb)
              clear HO357
              clear HO360
              clear HO368
              clear HO371
              clear HO377
              clear HO380
              clear BK365
              clear BK374
              clear HB
              have HO357 := n0_
              have HO360 := n1_
              have HO368 := n2_
              have HO371 := n3_
              have HO377 := n4_
              have HO380 := n5_
              have BK365 := n6_
              have BK374 := n7_
              have HB := n8_
              clear n0_ n1_ n2_ n3_ n4_ n5_ n6_ n7_ n8_
              (try clear hb)
              (try clear hb2)
              (try clear hk)
              (try clear hi)
              refine hK.out _ _ ⟨(qB BK374.out 0).trans rfl, (qB BK374.out 1).trans rfl, (qB BK374.out 2).trans rfl, (qB BK374.out 3).trans rfl, (qB BK365.out 0).trans rfl, (qB BK365.out 1).trans rfl, (qB BK365.out 2).trans rfl, (qB BK365.out 3).trans rfl⟩ (fun hHeld => ?_)
              clear hK K
              refine norm_ (a' := ?_) ?_ ?_
              rotate_left
              · show Act.put _ (some 28) _ = _
                simp only [Act.put, List.setIfInBounds_toArray, List.set_cons_zero, List.set_cons_succ, i64_w, i32_w]
                rfl
              refine pure_ (i := 5) (N := some 29) (v := ?_) (a' := ?_) #[true, true, true, true, true, true, false, false, false, false, false, false, false, false, false, false, false, false, false, false, false, false, false, false, false] rfl rfl (zE HT_.out (by kernel_rfl)) (fun _ _ _ h => h) (Or.inl ⟨by rfl, ?_⟩) ?_ ?_
              rotate_left
              · intro w'
                go_simp
                with_reducible rfl
              rotate_left
              · simp only [Act.put, List.setIfInBounds_toArray, List.set_cons_zero, List.set_cons_succ, i64_w, i32_w]
                rfl
              refine pure_ (i := 6) (N := some 30) (v := ?_) (a' := ?_) #[true, true, true, true, true, true, true, false, false, false, false, false, false, false, false, false, false, false, false, false, false, false, false, false, false] rfl rfl (zE HT_.out (by kernel_rfl)) (fun _ _ _ h => h) (Or.inl ⟨by rfl, ?_⟩) ?_ ?_
              rotate_left
              · intro w'
                go_simp
                with_reducible rfl
              rotate_left
              · simp only [Act.put, List.setIfInBounds_toArray, List.set_cons_zero, List.set_cons_succ, i64_w, i32_w]
                rfl
              refine take_ (i := 7) (N := some 31) (v := ?_) (a' := ?_) #[true, true, true, true, true, true, true, true, false, false, false, false, false, false, false, false, false, false, false, false, false, false, false, false, false] rfl rfl (zU HT_.out HW_.out (by kernel_rfl)) (fun _ _ _ h => h) (Or.inl ⟨by rfl, ?_⟩) hHeld ?_ ?_
              rotate_left
              · rintro w' ⟨s0, s1, s2, s3, s4, s5, s6, s7⟩
                go_simp
                with_reducible rfl
              rotate_left
              · simp only [Act.put, List.setIfInBounds_toArray, List.set_cons_zero, List.set_cons_succ, i64_w, i32_w]
                rfl
              refine one_ (i := 8) (N := some 32) #[true, true, true, true, true, true, true, true, true, false, false, false, false, false, false, false, false, false, false, false, false, false, false, false, false] rfl rfl (zW HT_.out (by kernel_rfl)) (by decide) (fun K hK => ?_)
              refine goes_ Try.func15 (by kernel_rfl) rfl #[.agg #[.slice Ao8 t355.length co8, .slice Ao10 t358.length co10, .int .i64 t361, .int .i64 t362]] (by rfl) rfl rfl (by (try simp only [List.map_toArray, List.map_cons, List.map_nil]); first | done | rfl | (simp only [List.length_drop, List.length_take]; rfl)) ?_
              with_reducible refine (spec_DiskOk.calls k _ _ t355 _ _ t358 t361 t362 true _ ?side1 ?side2 ?side3 ?side4 A20.out).mono ?_
              (case side1 => repeat (first | exact (Kd.zQ HO357.out).2.2 | (with_reducible refine Kd.zC ?_ _) | (with_reducible refine Kd.zD ?_ _) | (with_reducible refine Kd.zH ?_)))
              (case side2 => exact (Kd.zQ HO357.out).2.1)
              (case side3 => repeat (first | exact (Kd.qW HO360.out).2.2 | (with_reducible refine Kd.zC ?_ _) | (with_reducible refine Kd.zD ?_ _) | (with_reducible refine Kd.zH ?_)))
              (case side4 => exact (Kd.qW HO360.out).2.1)
              rintro e w37 ⟨rfl, hb⟩
              refine ⟨_, rfl, ?_⟩
              have n0_ := Aside0.mk (Kd.zZ (by (with_reducible repeat (first | apply Kd.zL | apply Kd.zM | apply Kd.zN)); exact HO357.out) hb)
              have n1_ := Aside0.mk (Kd.zA (by (with_reducible repeat (first | apply Kd.qK | apply Kd.qJ | apply Kd.qL)); exact HO360.out) hb)
              have n2_ := Aside0.mk (Kd.zA (by (with_reducible repeat (first | apply Kd.qK | apply Kd.qJ | apply Kd.qL)); exact HO368.out) hb)
              have n3_ := Aside0.mk (Kd.zA (by (with_reducible repeat (first | apply Kd.qK | apply Kd.qJ | apply Kd.qL)); exact HO371.out) hb)
              have n4_ := Aside0.mk (Kd.zA (by (with_reducible repeat (first | apply Kd.qK | apply Kd.qJ | apply Kd.qL)); exact HO377.out) hb)
              have n5_ := Aside0.mk (Kd.zA (by (with_reducible repeat (first | apply Kd.qK | apply Kd.qJ | apply Kd.qL)); exact HO380.out) hb)
              have n6_ := Aside0.mk (qM (g := gb365) (o := .cells #[.slice Ao8 t355.length co8, .slice Ao10 t358.length co10, .int .i64 t361, .int .i64 t362] 26 (0, 0)) (by (with_reducible repeat (first | refine qC ?_ _ | refine qF ?_ | refine qA ?_ _)); exact BK365.out) hb)
              have n7_ := Aside0.mk (qM (g := gb374) (o := .cells #[.slice Ao13 t366.length co13, .slice Ao16 t369.length co16, .int .i64 t372, .int .i64 t373] 26 (0, 0)) (by (with_reducible repeat (first | refine qC ?_ _ | refine qF ?_ | refine qA ?_ _)); exact BK374.out) hb)
              have n8_ := Aside0.mk (qO (by repeat (first | (with_reducible first | exact HB.out | apply qI | apply qD | apply qH | refine qG ?_ GE365.out | refine qG ?_ GE374.out) | exact HB.out)) hb)
              clear HO357
              clear HO360
              clear HO368
              clear HO371
              clear HO377
              clear HO380
              clear BK365
              clear BK374
              clear HB
              have HO357 := n0_
              have HO360 := n1_
              have HO368 := n2_
              have HO371 := n3_
              have HO377 := n4_
              have HO380 := n5_
              have BK365 := n6_
              have BK374 := n7_
              have HB := n8_
              clear n0_ n1_ n2_ n3_ n4_ n5_ n6_ n7_ n8_
              (try clear hb)
              (try clear hb2)
              (try clear hk)
              (try clear hi)
              refine hK.out _ _ ⟨(qB BK374.out 0).trans rfl, (qB BK374.out 1).trans rfl, (qB BK374.out 2).trans rfl, (qB BK374.out 3).trans rfl, (qB BK365.out 0).trans rfl, (qB BK365.out 1).trans rfl, (qB BK365.out 2).trans rfl, (qB BK365.out 3).trans rfl⟩ (fun hHeld => ?_)
              clear hK K
              refine norm_ (a' := ?_) ?_ ?_
              rotate_left
              · show Act.put _ (some 32) _ = _
                simp only [Act.put, List.setIfInBounds_toArray, List.set_cons_zero, List.set_cons_succ, i64_w, i32_w]
                rfl
              refine pure_ (i := 9) (N := some 33) (v := ?_) (a' := ?_) #[true, true, true, true, true, true, true, true, true, true, false, false, false, false, false, false, false, false, false, false, false, false, false, false, false] rfl rfl (zE HT_.out (by kernel_rfl)) (fun _ _ _ h => h) (Or.inl ⟨by rfl, ?_⟩) ?_ ?_
              rotate_left
              · intro w'
                go_simp
                with_reducible rfl
              rotate_left
              · simp only [Act.put, List.setIfInBounds_toArray, List.set_cons_zero, List.set_cons_succ, i64_w, i32_w]
                rfl
              refine pure_ (i := 10) (N := some 34) (v := ?_) (a' := ?_) #[true, true, true, true, true, true, true, true, true, true, true, false, false, false, false, false, false, false, false, false, false, false, false, false, false] rfl rfl (zE HT_.out (by kernel_rfl)) (fun _ _ _ h => h) (Or.inl ⟨by rfl, ?_⟩) ?_ ?_
              rotate_left
              · intro w'
                go_simp
                with_reducible rfl
              rotate_left
              · simp only [Act.put, List.setIfInBounds_toArray, List.set_cons_zero, List.set_cons_succ, i64_w, i32_w]
                rfl
              refine pure_ (i := 11) (N := some 35) (v := ?_) (a' := ?_) #[true, true, true, true, true, true, true, true, true, true, true, true, false, false, false, false, false, false, false, false, false, false, false, false, false] rfl rfl (zE HT_.out (by kernel_rfl)) (fun _ _ _ h => h) (Or.inl ⟨by rfl, ?_⟩) ?_ ?_
              rotate_left
              · intro w'
                go_simp
                with_reducible rfl
              rotate_left
              · simp only [Act.put, List.setIfInBounds_toArray, List.set_cons_zero, List.set_cons_succ, i64_w, i32_w]
                rfl
              refine pure_ (i := 12) (N := some 36) (v := ?_) (a' := ?_) #[true, true, true, true, true, true, true, true, true, true, true, true, true, false, false, false, false, false, false, false, false, false, false, false, false] rfl rfl (zE HT_.out (by kernel_rfl)) (fun _ _ _ h => h) (Or.inl ⟨by rfl, ?_⟩) ?_ ?_
              rotate_left
              · intro w'
                go_simp
                with_reducible rfl
              rotate_left
              · simp only [Act.put, List.setIfInBounds_toArray, List.set_cons_zero, List.set_cons_succ, i64_w, i32_w]
                rfl
              refine pure_ (i := 13) (N := some 37) (v := ?_) (a' := ?_) #[true, true, true, true, true, true, true, true, true, true, true, true, true, true, false, false, false, false, false, false, false, false, false, false, false] rfl rfl (zE HT_.out (by kernel_rfl)) (fun _ _ _ h => h) (Or.inl ⟨by rfl, ?_⟩) ?_ ?_
              rotate_left
              · intro w'
                go_simp
                with_reducible rfl
              rotate_left
              · simp only [Act.put, List.setIfInBounds_toArray, List.set_cons_zero, List.set_cons_succ, i64_w, i32_w]
                rfl
              refine pure_ (i := 14) (N := some 38) (v := ?_) (a' := ?_) #[true, true, true, true, true, true, true, true, true, true, true, true, true, true, true, false, false, false, false, false, false, false, false, false, false] rfl rfl (zE HT_.out (by kernel_rfl)) (fun _ _ _ h => h) (Or.inl ⟨by rfl, ?_⟩) ?_ ?_
              rotate_left
              · intro w'
                go_simp
                with_reducible rfl
              rotate_left
              · simp only [Act.put, List.setIfInBounds_toArray, List.set_cons_zero, List.set_cons_succ, i64_w, i32_w]
                rfl
              refine pure_ (i := 15) (N := some 39) (v := ?_) (a' := ?_) #[true, true, true, true, true, true, true, true, true, true, true, true, true, true, true, true, false, false, false, false, false, false, false, false, false] rfl rfl (zE HT_.out (by kernel_rfl)) (fun _ _ _ h => h) (Or.inl ⟨by rfl, ?_⟩) ?_ ?_
              rotate_left
              · intro w'
                go_simp
                with_reducible rfl
              rotate_left
              · simp only [Act.put, List.setIfInBounds_toArray, List.set_cons_zero, List.set_cons_succ, i64_w, i32_w]
                rfl
              refine pure_ (i := 16) (N := some 40) (v := ?_) (a' := ?_) #[true, true, true, true, true, true, true, true, true, true, true, true, true, true, true, true, true, false, false, false, false, false, false, false, false] rfl rfl (zE HT_.out (by kernel_rfl)) (fun _ _ _ h => h) (Or.inl ⟨by rfl, ?_⟩) ?_ ?_
              rotate_left
              · intro w'
                go_simp
                with_reducible rfl
              rotate_left
              · simp only [Act.put, List.setIfInBounds_toArray, List.set_cons_zero, List.set_cons_succ, i64_w, i32_w]
                rfl
              refine pure_ (i := 17) (N := some 41) (v := ?_) (a' := ?_) #[true, true, true, true, true, true, true, true, true, true, true, true, true, true, true, true, true, true, false, false, false, false, false, false, false] rfl rfl (zE HT_.out (by kernel_rfl)) (fun _ _ _ h => h) (Or.inl ⟨by rfl, ?_⟩) ?_ ?_
              rotate_left
              · intro w'
                go_simp
                with_reducible rfl
              rotate_left
              · simp only [Act.put, List.setIfInBounds_toArray, List.set_cons_zero, List.set_cons_succ, i64_w, i32_w]
                rfl
              refine pure_ (i := 18) (N := some 42) (v := ?_) (a' := ?_) #[true, true, true, true, true, true, true, true, true, true, true, true, true, true, true, true, true, true, true, false, false, false, false, false, false] rfl rfl (zE HT_.out (by kernel_rfl)) (fun _ _ _ h => h) (Or.inl ⟨by rfl, ?_⟩) ?_ ?_
              rotate_left
              · intro w'
                go_simp
                with_reducible rfl
              rotate_left
              · simp only [Act.put, List.setIfInBounds_toArray, List.set_cons_zero, List.set_cons_succ, i64_w, i32_w]
                rfl
              refine pure_ (i := 19) (N := some 43) (v := ?_) (a' := ?_) #[true, true, true, true, true, true, true, true, true, true, true, true, true, true, true, true, true, true, true, true, false, false, false, false, false] rfl rfl (zE HT_.out (by kernel_rfl)) (fun _ _ _ h => h) (Or.inl ⟨by rfl, ?_⟩) ?_ ?_
              rotate_left
              · intro w'
                go_simp
                with_reducible rfl
              rotate_left
              · simp only [Act.put, List.setIfInBounds_toArray, List.set_cons_zero, List.set_cons_succ, i64_w, i32_w]
                rfl
              refine pure_ (i := 20) (N := some 44) (v := undef) (a' := ?_) #[true, true, true, true, true, true, true, true, true, true, true, true, true, true, true, true, true, true, true, true, true, false, false, false, false] rfl rfl (zE HT_.out (by kernel_rfl)) (fun _ _ _ h => h) (Or.inr ⟨by rfl, rfl⟩) ?_ ?_
              rotate_left
              · simp only [Act.put, List.setIfInBounds_toArray, List.set_cons_zero, List.set_cons_succ, i64_w, i32_w]
                rfl
              refine pure_ (i := 21) (N := some 45) (v := undef) (a' := ?_) #[true, true, true, true, true, true, true, true, true, true, true, true, true, true, true, true, true, true, true, true, true, true, false, false, false] rfl rfl (zE HT_.out (by kernel_rfl)) (fun _ _ _ h => h) (Or.inr ⟨by rfl, rfl⟩) ?_ ?_
              rotate_left
              · simp only [Act.put, List.setIfInBounds_toArray, List.set_cons_zero, List.set_cons_succ, i64_w, i32_w]
                rfl
              refine pure_ (i := 22) (N := some 46) (v := undef) (a' := ?_) #[true, true, true, true, true, true, true, true, true, true, true, true, true, true, true, true, true, true, true, true, true, true, true, false, false] rfl rfl (zE HT_.out (by kernel_rfl)) (fun _ _ _ h => h) (Or.inr ⟨by rfl, rfl⟩) ?_ ?_
              rotate_left
              · simp only [Act.put, List.setIfInBounds_toArray, List.set_cons_zero, List.set_cons_succ, i64_w, i32_w]
                rfl
              refine pure_ (i := 23) (N := some 47) (v := undef) (a' := ?_) #[true, true, true, true, true, true, true, true, true, true, true, true, true, true, true, true, true, true, true, true, true, true, true, true, false] rfl rfl (zE HT_.out (by kernel_rfl)) (fun _ _ _ h => h) (Or.inr ⟨by rfl, rfl⟩) ?_ ?_
              rotate_left
              · simp only [Act.put, List.setIfInBounds_toArray, List.set_cons_zero, List.set_cons_succ, i64_w, i32_w]
                rfl
              refine pure_ (i := 24) (N := some 48) (v := ?_) (a' := ?_) #[true, true, true, true, true, true, true, true, true, true, true, true, true, true, true, true, true, true, true, true, true, true, true, true, true] rfl rfl (zE HT_.out (by kernel_rfl)) (fun _ _ _ h => h) (Or.inl ⟨by rfl, ?_⟩) ?_ ?_
              rotate_left
              · intro w'
                go_simp
                with_reducible rfl
              rotate_left
              · simp only [Act.put, List.setIfInBounds_toArray, List.set_cons_zero, List.set_cons_succ, i64_w, i32_w]
                rfl
              refine done_ (done_of HT_.out (by kernel_rfl)) ?_
              try go_wp2
              go_meet
              case rel => exact ⟨_, (true), (by first | rfl | (simp; done) | (simp [*]; done)), H', ⟨by first | omega | exact Nat.le_refl _⟩, ⟨by (with_reducible repeat (first | apply Kd.zL | apply Kd.zM | apply Kd.zN)); exact Kd.zX HO357.out (fun _ hk => hk.1)⟩, ⟨by (with_reducible repeat (first | apply Kd.qK | apply Kd.qJ | apply Kd.qL)); exact Kd.qV HO360.out (fun _ hk => hk.1)⟩, ⟨Kd.Q_of_R (by (with_reducible repeat (first | apply Kd.qK | apply Kd.qJ | apply Kd.qL)); exact Kd.qV HO368.out (fun _ hk => hk.1))⟩, ⟨by (with_reducible repeat (first | apply Kd.qK | apply Kd.qJ | apply Kd.qL)); exact Kd.qV HO371.out (fun _ hk => hk.1)⟩, ⟨by (with_reducible repeat (first | refine qC ?_ _ | refine qF ?_ | refine qA ?_ _)); exact BK365.out⟩, ⟨by (with_reducible repeat (first | refine qC ?_ _ | refine qF ?_ | refine qA ?_ _)); exact BK374.out⟩, ⟨by repeat (first | (with_reducible first | exact HB.out | apply qI | apply qD | apply qH | refine qG ?_ GE365.out | refine qG ?_ GE374.out) | exact HB.out)⟩⟩
            · rw [if_neg c30] at H
              have c30b0 : decide (t364 < (-5)) = false := decide_eq_false c30
              clear c30
              have H' := Aside0.mk H
              clear H
              try go_wp2
              have n0_ : Aside0 (Kd.Q Kd.string 9 ((((w12.setCell ⟨gb374, 0, none⟩ (.slice Ao13 t366.length co13)).setCell ⟨gb374, 1, none⟩ (.slice Ao16 t369.length co16)).setCell ⟨gb374, 2, none⟩ (.int .i64 t372)).setCell ⟨gb374, 3, none⟩ (.int .i64 t373)) w.heap.size (fun k_ => some k_ ≠ (.slice Ao13 t366.length co13 : Value).ownBlock) (.slice Ao8 t355.length co8) t355) := ⟨by (with_reducible repeat (first | apply Kd.zL | apply Kd.zM | apply Kd.zN)); exact Kd.zX (Kd.Q_far (p := ⟨gb374, 3, none⟩) (Kd.Q_far (p := ⟨gb374, 2, none⟩) (Kd.Q_far (p := ⟨gb374, 1, none⟩) (Kd.Q_far (p := ⟨gb374, 0, none⟩) (Kd.xB HO357.out BK374.out (by decide)) (fun _ hk => hk.2) (.slice Ao13 t366.length co13)) (fun _ hk => hk.2) (.slice Ao16 t369.length co16)) (fun _ hk => hk.2) (.int .i64 t372)) (fun _ hk => hk.2) (.int .i64 t373)) (fun _ hk => hk.1.2)⟩
              have n1_ : Aside0 (Kd.R k70 70 ((((w12.setCell ⟨gb374, 0, none⟩ (.slice Ao13 t366.length co13)).setCell ⟨gb374, 1, none⟩ (.slice Ao16 t369.length co16)).setCell ⟨gb374, 2, none⟩ (.int .i64 t372)).setCell ⟨gb374, 3, none⟩ (.int .i64 t373)) w.heap.size (fun k_ => some k_ ≠ (.slice Ao16 t369.length co16 : Value).ownBlock) (.slice Ao10 t358.length co10) t358) := ⟨by (with_reducible repeat (first | apply Kd.qK | apply Kd.qJ | apply Kd.qL)); exact Kd.qV (Kd.R_far (p := ⟨gb374, 3, none⟩) (Kd.R_far (p := ⟨gb374, 2, none⟩) (Kd.R_far (p := ⟨gb374, 1, none⟩) (Kd.R_far (p := ⟨gb374, 0, none⟩) (Kd.qX HO360.out BK374.out (by decide)) (fun _ hk => hk.2) (.slice Ao13 t366.length co13)) (fun _ hk => hk.2) (.slice Ao16 t369.length co16)) (fun _ hk => hk.2) (.int .i64 t372)) (fun _ hk => hk.2) (.int .i64 t373)) (fun _ hk => hk.1.2)⟩
              have n2_ : Aside0 (Kd.R Kd.string 9 ((((w12.setCell ⟨gb374, 0, none⟩ (.slice Ao13 t366.length co13)).setCell ⟨gb374, 1, none⟩ (.slice Ao16 t369.length co16)).setCell ⟨gb374, 2, none⟩ (.int .i64 t372)).setCell ⟨gb374, 3, none⟩ (.int .i64 t373)) w.heap.size (fun k_ => some k_ ≠ (.slice Ao8 t355.length co8 : Value).ownBlock) (.slice Ao13 t366.length co13) t366) := ⟨by (with_reducible repeat (first | apply Kd.qK | apply Kd.qJ | apply Kd.qL)); exact Kd.qV (Kd.R_far (p := ⟨gb374, 3, none⟩) (Kd.R_far (p := ⟨gb374, 2, none⟩) (Kd.R_far (p := ⟨gb374, 1, none⟩) (Kd.R_far (p := ⟨gb374, 0, none⟩) (Kd.qX HO368.out BK374.out (by decide)) (fun _ hk => hk.2) (.slice Ao13 t366.length co13)) (fun _ hk => hk.2) (.slice Ao16 t369.length co16)) (fun _ hk => hk.2) (.int .i64 t372)) (fun _ hk => hk.2) (.int .i64 t373)) (fun _ hk => hk.1.2)⟩
              have n3_ : Aside0 (Kd.R k70 70 ((((w12.setCell ⟨gb374, 0, none⟩ (.slice Ao13 t366.length co13)).setCell ⟨gb374, 1, none⟩ (.slice Ao16 t369.length co16)).setCell ⟨gb374, 2, none⟩ (.int .i64 t372)).setCell ⟨gb374, 3, none⟩ (.int .i64 t373)) w.heap.size (fun k_ => some k_ ≠ (.slice Ao10 t358.length co10 : Value).ownBlock) (.slice Ao16 t369.length co16) t369) := ⟨by (with_reducible repeat (first | apply Kd.qK | apply Kd.qJ | apply Kd.qL)); exact Kd.qV (Kd.R_far (p := ⟨gb374, 3, none⟩) (Kd.R_far (p := ⟨gb374, 2, none⟩) (Kd.R_far (p := ⟨gb374, 1, none⟩) (Kd.R_far (p := ⟨gb374, 0, none⟩) (Kd.qX HO371.out BK374.out (by decide)) (fun _ hk => hk.2) (.slice Ao13 t366.length co13)) (fun _ hk => hk.2) (.slice Ao16 t369.length co16)) (fun _ hk => hk.2) (.int .i64 t372)) (fun _ hk => hk.2) (.int .i64 t373)) (fun _ hk => hk.1.2)⟩
              have n4_ : Aside0 (((((w12.setCell ⟨gb374, 0, none⟩ (.slice Ao13 t366.length co13)).setCell ⟨gb374, 1, none⟩ (.slice Ao16 t369.length co16)).setCell ⟨gb374, 2, none⟩ (.int .i64 t372)).setCell ⟨gb374, 3, none⟩ (.int .i64 t373)).heap[gb365]? = some (.cells #[.slice Ao8 t355.length co8, .slice Ao10 t358.length co10, .int .i64 t361, .int .i64 t362] 26 (0, 0))) := ⟨by (with_reducible repeat (first | refine qC ?_ _ | refine qF ?_ | refine qA ?_ _)); refine qU ?_ NB365_374.out _; (with_reducible repeat (first | refine qC ?_ _ | refine qF ?_ | refine qA ?_ _)); refine qU ?_ NB365_374.out _; (with_reducible repeat (first | refine qC ?_ _ | refine qF ?_ | refine qA ?_ _)); refine qU ?_ NB365_374.out _; (with_reducible repeat (first | refine qC ?_ _ | refine qF ?_ | refine qA ?_ _)); refine qU ?_ NB365_374.out _; (with_reducible repeat (first | refine qC ?_ _ | refine qF ?_ | refine qA ?_ _)); exact BK365.out⟩
              have n5_ : Aside0 (((((w12.setCell ⟨gb374, 0, none⟩ (.slice Ao13 t366.length co13)).setCell ⟨gb374, 1, none⟩ (.slice Ao16 t369.length co16)).setCell ⟨gb374, 2, none⟩ (.int .i64 t372)).setCell ⟨gb374, 3, none⟩ (.int .i64 t373)).heap[gb374]? = some (.cells #[.slice Ao13 t366.length co13, .slice Ao16 t369.length co16, .int .i64 t372, .int .i64 t373] 26 (0, 0))) := ⟨by (with_reducible repeat (first | refine qC ?_ _ | refine qF ?_ | refine qA ?_ _)); refine qR (cs := #[.slice Ao13 t366.length co13, .slice Ao16 t369.length co16, .int .i64 t372, .int .i64 0]) ?_ 3 _ rfl; (with_reducible repeat (first | refine qC ?_ _ | refine qF ?_ | refine qA ?_ _)); refine qR (cs := #[.slice Ao13 t366.length co13, .slice Ao16 t369.length co16, .int .i64 0, .int .i64 0]) ?_ 2 _ rfl; (with_reducible repeat (first | refine qC ?_ _ | refine qF ?_ | refine qA ?_ _)); refine qR (cs := #[.slice Ao13 t366.length co13, .slice none 0 0, .int .i64 0, .int .i64 0]) ?_ 1 _ rfl; (with_reducible repeat (first | refine qC ?_ _ | refine qF ?_ | refine qA ?_ _)); refine qR (cs := #[.slice none 0 0, .slice none 0 0, .int .i64 0, .int .i64 0]) ?_ 0 _ rfl; (with_reducible repeat (first | refine qC ?_ _ | refine qF ?_ | refine qA ?_ _)); exact BK374.out⟩
              have n6_ : Aside0 (Below w.heap.size w ((((w12.setCell ⟨gb374, 0, none⟩ (.slice Ao13 t366.length co13)).setCell ⟨gb374, 1, none⟩ (.slice Ao16 t369.length co16)).setCell ⟨gb374, 2, none⟩ (.int .i64 t372)).setCell ⟨gb374, 3, none⟩ (.int .i64 t373))) := ⟨by repeat (first | (with_reducible first | exact HB.out | apply qI | apply qD | apply qH | refine qG ?_ GE365.out | refine qG ?_ GE374.out) | exact HB.out)⟩
              (try clear HO357)
              (try clear HO360)
              (try clear HO368)
              (try clear HO371)
              (try clear BK365)
              (try clear BK374)
              (try clear HB)
              generalize ((((w12.setCell ⟨gb374, 0, none⟩ (.slice Ao13 t366.length co13)).setCell ⟨gb374, 1, none⟩ (.slice Ao16 t369.length co16)).setCell ⟨gb374, 2, none⟩ (.int .i64 t372)).setCell ⟨gb374, 3, none⟩ (.int .i64 t373)) = w38 at n0_ n1_ n2_ n3_ n4_ n5_ n6_ ⊢
              have HO357 := n0_
              have HO360 := n1_
              have HO368 := n2_
              have HO371 := n3_
              have BK365 := n4_
              have BK374 := n5_
              have HB := n6_
              clear n0_ n1_ n2_ n3_ n4_ n5_ n6_
              have n0_ := Aside0.mk (Kd.zN HO357.out)
              have n1_ := Aside0.mk (Kd.qL HO360.out)
              have n2_ := Aside0.mk (Kd.qL HO368.out)
              have n3_ := Aside0.mk (Kd.qL HO371.out)
              have n4_ := Aside0.mk (qF BK365.out)
              have n5_ := Aside0.mk (qF BK374.out)
              have n6_ := Aside0.mk (qH HB.out)
              clear HO357
              clear HO360
              clear HO368
              clear HO371
              clear BK365
              clear BK374
              clear HB
              have HO357 := n0_
              have HO360 := n1_
              have HO368 := n2_
              have HO371 := n3_
              have BK365 := n4_
              have BK374 := n5_
              have HB := n6_
              clear n0_ n1_ n2_ n3_ n4_ n5_ n6_
              refine start_ (n := 25) (S := fun w' => w'.cell? ⟨gb374, 0, none⟩ = some (.slice Ao13 t366.length co13) ∧ w'.cell? ⟨gb374, 1, none⟩ = some (.slice Ao16 t369.length co16) ∧ w'.cell? ⟨gb374, 2, none⟩ = some (.int .i64 t372) ∧ w'.cell? ⟨gb374, 3, none⟩ = some (.int .i64 t373) ∧ w'.cell? ⟨gb365, 0, none⟩ = some (.slice Ao8 t355.length co8) ∧ w'.cell? ⟨gb365, 1, none⟩ = some (.slice Ao10 t358.length co10) ∧ w'.cell? ⟨gb365, 2, none⟩ = some (.int .i64 t361) ∧ w'.cell? ⟨gb365, 3, none⟩ = some (.int .i64 t362)) (ds := []) #[false, false, false, false, false, false, false, false, false, false, false, false, false, false, false, false, false, false, false, false, false, false, false, false, false] (by kernel_rfl) rfl rfl ⟨(qB BK374.out 0).trans rfl, (qB BK374.out 1).trans rfl, (qB BK374.out 2).trans rfl, (qB BK374.out 3).trans rfl, (qB BK365.out 0).trans rfl, (qB BK365.out 1).trans rfl, (qB BK365.out 2).trans rfl, (qB BK365.out 3).trans rfl⟩ (fun hHeld => ?_); refine xH laws_FnDiskRoom.tab5 laws_FnDiskRoom.bits5 (fun HT_ HW_ => ?_)
              generalize w38.drew = w39 at HO357 HO360 HO368 HO371 BK365 BK374 HB hHeld ⊢
              refine pure_ (i := 2) (N := some 26) (v := ?_) (a' := ?_) #[false, false, true, false, false, false, false, false, false, false, false, false, false, false, false, false, false, false, false, false, false, false, false, false, false] rfl rfl (zE HT_.out (by kernel_rfl)) (fun _ _ _ h => h) (Or.inl ⟨by rfl, ?_⟩) ?_ ?_
              rotate_left
              · intro w'
                go_simp
                with_reducible rfl
              rotate_left
              · simp only [Act.put, List.setIfInBounds_toArray, List.set_cons_zero, List.set_cons_succ, i64_w, i32_w]
                rfl
              refine take_ (i := 0) (N := some 24) (v := ?_) (a' := ?_) #[true, false, true, false, false, false, false, false, false, false, false, false, false, false, false, false, false, false, false, false, false, false, false, false, false] rfl rfl (zU HT_.out HW_.out (by kernel_rfl)) (fun _ _ _ h => h) (Or.inl ⟨by rfl, ?_⟩) hHeld ?_ ?_
              rotate_left
              · rintro w' ⟨s0, s1, s2, s3, s4, s5, s6, s7⟩
                go_simp
                with_reducible rfl
              rotate_left
              · simp only [Act.put, List.setIfInBounds_toArray, List.set_cons_zero, List.set_cons_succ, i64_w, i32_w]
                rfl
              refine take_ (i := 1) (N := some 25) (v := ?_) (a' := ?_) #[true, true, true, false, false, false, false, false, false, false, false, false, false, false, false, false, false, false, false, false, false, false, false, false, false] rfl rfl (zU HT_.out HW_.out (by kernel_rfl)) (fun _ _ _ h => h) (Or.inl ⟨by rfl, ?_⟩) hHeld ?_ ?_
              rotate_left
              · rintro w' ⟨s0, s1, s2, s3, s4, s5, s6, s7⟩
                go_simp
                with_reducible rfl
              rotate_left
              · simp only [Act.put, List.setIfInBounds_toArray, List.set_cons_zero, List.set_cons_succ, i64_w, i32_w]
                rfl
              refine one_ (i := 3) (N := some 27) #[true, true, true, true, false, false, false, false, false, false, false, false, false, false, false, false, false, false, false, false, false, false, false, false, false] rfl rfl (zW HT_.out (by kernel_rfl)) (by decide) (fun K hK => ?_)
              refine goes_ Try.func14 (by kernel_rfl) rfl #[.agg #[.slice Ao8 t355.length co8, .slice Ao10 t358.length co10, .int .i64 t361, .int .i64 t362], .int .i64 t363, .int .i64 (-1)] (by rfl) rfl rfl (by (try simp only [List.map_toArray, List.map_cons, List.map_nil]); first | done | rfl | (simp only [List.length_drop, List.length_take]; rfl)) ?_
              with_reducible refine (spec_DiskSet.calls k _ _ t355 _ _ t358 t361 t362 t363 (-1) t375 t378 t381 t382 _ ?side1 ?side2 ?side3 ?side4 A17.out).mono ?_
              (case side1 => repeat (first | exact (Kd.zQ HO357.out).2.2 | (with_reducible refine Kd.zC ?_ _) | (with_reducible refine Kd.zD ?_ _) | (with_reducible refine Kd.zH ?_)))
              (case side2 => exact (Kd.zQ HO357.out).2.1)
              (case side3 => repeat (first | exact (Kd.qW HO360.out).2.2 | (with_reducible refine Kd.zC ?_ _) | (with_reducible refine Kd.zD ?_ _) | (with_reducible refine Kd.zH ?_)))
              (case side4 => exact (Kd.qW HO360.out).2.1)
              rintro e w40 ⟨v376, v379, rfl, ho0, ho1, hb⟩
              refine ⟨_, rfl, ?_⟩
              have n0_ := Aside0.mk (Kd.xF (by (with_reducible repeat (first | apply Kd.zL | apply Kd.zM | apply Kd.zN)); exact HO357.out) (Kd.zS ho0) hb)
              have n1_ := Aside0.mk (Kd.zR (by (with_reducible repeat (first | apply Kd.qK | apply Kd.qJ | apply Kd.qL)); exact HO360.out) (Kd.zS ho1) hb)
              have n2_ := Aside0.mk (Kd.zR (by (with_reducible repeat (first | apply Kd.qK | apply Kd.qJ | apply Kd.qL)); exact HO368.out) (Kd.zS ho0) hb)
              have n3_ := Aside0.mk (Kd.zR (by (with_reducible repeat (first | apply Kd.qK | apply Kd.qJ | apply Kd.qL)); exact HO371.out) (Kd.zS ho1) hb)
              have n4_ := Aside0.mk (Kd.zJ (Kd.zT (Kd.zT ho0 (Kd.Q_lt (by (with_reducible repeat (first | apply Kd.zL | apply Kd.zM | apply Kd.zN)); exact HO357.out))) (Kd.R_lt (by (with_reducible repeat (first | apply Kd.qK | apply Kd.qJ | apply Kd.qL)); exact HO368.out))) (qN (by repeat (first | (with_reducible first | exact HB.out | apply qI | apply qD | apply qH | refine qG ?_ GE365.out | refine qG ?_ GE374.out) | exact HB.out))))
              have n5_ := Aside0.mk (Kd.zJ (Kd.zT (Kd.zT ho1 (Kd.R_lt (by (with_reducible repeat (first | apply Kd.qK | apply Kd.qJ | apply Kd.qL)); exact HO360.out))) (Kd.R_lt (by (with_reducible repeat (first | apply Kd.qK | apply Kd.qJ | apply Kd.qL)); exact HO371.out))) (qN (by repeat (first | (with_reducible first | exact HB.out | apply qI | apply qD | apply qH | refine qG ?_ GE365.out | refine qG ?_ GE374.out) | exact HB.out))))
              have n6_ := Aside0.mk (qM (g := gb365) (o := .cells #[.slice Ao8 t355.length co8, .slice Ao10 t358.length co10, .int .i64 t361, .int .i64 t362] 26 (0, 0)) (by (with_reducible repeat (first | refine qC ?_ _ | refine qF ?_ | refine qA ?_ _)); exact BK365.out) hb)
              have n7_ := Aside0.mk (qM (g := gb374) (o := .cells #[.slice Ao13 t366.length co13, .slice Ao16 t369.length co16, .int .i64 t372, .int .i64 t373] 26 (0, 0)) (by (with_reducible repeat (first | refine qC ?_ _ | refine qF ?_ | refine qA ?_ _)); exact BK374.out) hb)
              have n8_ := Aside0.mk (qO (by repeat (first | (with_reducible first | exact HB.out | apply qI | apply qD | apply qH | refine qG ?_ GE365.out | refine qG ?_ GE374.out) | exact HB.out)) hb)
              clear HO357
              clear HO360
              clear HO368
              clear HO371
              clear BK365
              clear BK374
              clear HB
              have HO357 := n0_
              have HO360 := n1_
              have HO368 := n2_
              have HO371 := n3_
              have HO377 := n4_
              have HO380 := n5_
              have BK365 := n6_
              have BK374 := n7_
              have HB := n8_
              clear n0_ n1_ n2_ n3_ n4_ n5_ n6_ n7_ n8_
              (try clear hb)
              (try clear hb2)
              (try clear hk)
              (try clear hi)
              (try clear ho0)
              (try clear ho1)
              obtain ⟨Ao41, co41, eo41⟩ := Kd.zF HO377.out
              (first | subst eo41 | (injection eo41 with f1_ f2_ f3_; have f4_ := f1_.symm; have f5_ := f3_.symm; clear f1_ f2_ f3_; subst f4_; subst f5_))
              obtain ⟨Ao42, co42, eo42⟩ := Kd.zF HO380.out
              (first | subst eo42 | (injection eo42 with f1_ f2_ f3_; have f4_ := f1_.symm; have f5_ := f3_.symm; clear f1_ f2_ f3_; subst f4_; subst f5_))
              refine hK.out _ _ ⟨(qB BK374.out 0).trans rfl, (qB BK374.out 1).trans rfl, (qB BK374.out 2).trans rfl, (qB BK374.out 3).trans rfl, (qB BK365.out 0).trans rfl, (qB BK365.out 1).trans rfl, (qB BK365.out 2).trans rfl, (qB BK365.out 3).trans rfl⟩ (fun hHeld => ?_)
              clear hK K
              refine norm_ (a' := ?_) ?_ ?_
              rotate_left
              · show Act.put _ (some 27) _ = _
                simp only [Act.put, List.setIfInBounds_toArray, List.set_cons_zero, List.set_cons_succ, i64_w, i32_w]
                rfl
              refine one_ (i := 4) (N := some 28) #[true, true, true, true, true, false, false, false, false, false, false, false, false, false, false, false, false, false, false, false, false, false, false, false, false] rfl rfl (zW HT_.out (by kernel_rfl)) (by decide) (fun K hK => ?_)
              refine goes_ Try.func13 (by kernel_rfl) rfl #[.agg #[.slice Ao13 t366.length co13, .slice Ao16 t369.length co16, .int .i64 t372, .int .i64 t373], .agg #[.slice Ao41 t375.length co41, .slice Ao42 t378.length co42, .int .i64 t381, .int .i64 t382]] (by rfl) rfl rfl (by (try simp only [List.map_toArray, List.map_cons, List.map_nil]); first | done | rfl | (simp only [List.length_drop, List.length_take]; rfl)) ?_
              with_reducible refine (laws_jtDisk.calls k _ _ t366 _ _ t369 t372 t373 _ _ t375 _ _ t378 t381 t382 true _ ?side1 ?side2 ?side3 ?side4 ?side5 ?side6 ?side7 ?side8 A18.out).mono ?_
              (case side1 => repeat (first | exact (Kd.qW HO368.out).2.2 | (with_reducible refine Kd.zC ?_ _) | (with_reducible refine Kd.zD ?_ _) | (with_reducible refine Kd.zH ?_)))
              (case side2 => exact (Kd.qW HO368.out).2.1)
              (case side3 => repeat (first | exact (Kd.qW HO371.out).2.2 | (with_reducible refine Kd.zC ?_ _) | (with_reducible refine Kd.zD ?_ _) | (with_reducible refine Kd.zH ?_)))
              (case side4 => exact (Kd.qW HO371.out).2.1)
              (case side5 => repeat (first | exact (Kd.qW HO377.out).2.2 | (with_reducible refine Kd.zC ?_ _) | (with_reducible refine Kd.zD ?_ _) | (with_reducible refine Kd.zH ?_)))
              (case side6 => exact (Kd.qW HO377.out).2.1)
              (case side7 => repeat (first | exact (Kd.qW HO380.out).2.2 | (with_reducible refine Kd.zC ?_ _) | (with_reducible refine Kd.zD ?_ _) | (with_reducible refine Kd.zH ?_)))
              (case side8 => exact (Kd.qW HO380.out).2.1)
              rintro e w43 ⟨rfl, hb⟩
              refine ⟨_, rfl, ?_⟩
              have n0_ := Aside0.mk (Kd.zZ (by (with_reducible repeat (first | apply Kd.zL | apply Kd.zM | apply Kd.zN)); exact HO357.out) hb)
              have n1_ := Aside0.mk (Kd.zA (by (with_reducible repeat (first | apply Kd.qK | apply Kd.qJ | apply Kd.qL)); exact HO360.out) hb)
              have n2_ := Aside0.mk (Kd.zA (by (with_reducible repeat (first | apply Kd.qK | apply Kd.qJ | apply Kd.qL)); exact HO368.out) hb)
              have n3_ := Aside0.mk (Kd.zA (by (with_reducible repeat (first | apply Kd.qK | apply Kd.qJ | apply Kd.qL)); exact HO371.out) hb)
              have n4_ := Aside0.mk (Kd.zA (by (with_reducible repeat (first | apply Kd.qK | apply Kd.qJ | apply Kd.qL)); exact HO377.out) hb)
              have n5_ := Aside0.mk (Kd.zA (by (with_reducible repeat (first | apply Kd.qK | apply Kd.qJ | apply Kd.qL)); exact HO380.out) hb)
              have n6_ := Aside0.mk (qM (g := gb365) (o := .cells #[.slice Ao8 t355.length co8, .slice Ao10 t358.length co10, .int .i64 t361, .int .i64 t362] 26 (0, 0)) (by (with_reducible repeat (first | refine qC ?_ _ | refine qF ?_ | refine qA ?_ _)); exact BK365.out) hb)
              have n7_ := Aside0.mk (qM (g := gb374) (o := .cells #[.slice Ao13 t366.length co13, .slice Ao16 t369.length co16, .int .i64 t372, .int .i64 t373] 26 (0, 0)) (by (with_reducible repeat (first | refine qC ?_ _ | refine qF ?_ | refine qA ?_ _)); exact BK374.out) hb)
              have n8_ := Aside0.mk (qO (by repeat (first | (with_reducible first | exact HB.out | apply qI | apply qD | apply qH | refine qG ?_ GE365.out | refine qG ?_ GE374.out) | exact HB.out)) hb)
              clear HO357
              clear HO360
              clear HO368
              clear HO371
              clear HO377
              clear HO380
              clear BK365
              clear BK374
              clear HB
              have HO357 := n0_
              have HO360 := n1_
              have HO368 := n2_
              have HO371 := n3_
              have HO377 := n4_
              have HO380 := n5_
              have BK365 := n6_
              have BK374 := n7_
              have HB := n8_
              clear n0_ n1_ n2_ n3_ n4_ n5_ n6_ n7_ n8_
              (try clear hb)
              (try clear hb2)
              (try clear hk)
              (try clear hi)
              refine hK.out _ _ ⟨(qB BK374.out 0).trans rfl, (qB BK374.out 1).trans rfl, (qB BK374.out 2).trans rfl, (qB BK374.out 3).trans rfl, (qB BK365.out 0).trans rfl, (qB BK365.out 1).trans rfl, (qB BK365.out 2).trans rfl, (qB BK365.out 3).trans rfl⟩ (fun hHeld => ?_)
              clear hK K
              refine norm_ (a' := ?_) ?_ ?_
              rotate_left
              · show Act.put _ (some 28) _ = _
                simp only [Act.put, List.setIfInBounds_toArray, List.set_cons_zero, List.set_cons_succ, i64_w, i32_w]
                rfl
              refine pure_ (i := 5) (N := some 29) (v := ?_) (a' := ?_) #[true, true, true, true, true, true, false, false, false, false, false, false, false, false, false, false, false, false, false, false, false, false, false, false, false] rfl rfl (zE HT_.out (by kernel_rfl)) (fun _ _ _ h => h) (Or.inl ⟨by rfl, ?_⟩) ?_ ?_
              rotate_left
              · intro w'
                go_simp
                with_reducible rfl
              rotate_left
              · simp only [Act.put, List.setIfInBounds_toArray, List.set_cons_zero, List.set_cons_succ, i64_w, i32_w]
                rfl
              refine pure_ (i := 6) (N := some 30) (v := ?_) (a' := ?_) #[true, true, true, true, true, true, true, false, false, false, false, false, false, false, false, false, false, false, false, false, false, false, false, false, false] rfl rfl (zE HT_.out (by kernel_rfl)) (fun _ _ _ h => h) (Or.inl ⟨by rfl, ?_⟩) ?_ ?_
              rotate_left
              · intro w'
                go_simp
                with_reducible rfl
              rotate_left
              · simp only [Act.put, List.setIfInBounds_toArray, List.set_cons_zero, List.set_cons_succ, i64_w, i32_w]
                rfl
              refine take_ (i := 7) (N := some 31) (v := ?_) (a' := ?_) #[true, true, true, true, true, true, true, true, false, false, false, false, false, false, false, false, false, false, false, false, false, false, false, false, false] rfl rfl (zU HT_.out HW_.out (by kernel_rfl)) (fun _ _ _ h => h) (Or.inl ⟨by rfl, ?_⟩) hHeld ?_ ?_
              rotate_left
              · rintro w' ⟨s0, s1, s2, s3, s4, s5, s6, s7⟩
                go_simp
                with_reducible rfl
              rotate_left
              · simp only [Act.put, List.setIfInBounds_toArray, List.set_cons_zero, List.set_cons_succ, i64_w, i32_w]
                rfl
              refine one_ (i := 8) (N := some 32) #[true, true, true, true, true, true, true, true, true, false, false, false, false, false, false, false, false, false, false, false, false, false, false, false, false] rfl rfl (zW HT_.out (by kernel_rfl)) (by decide) (fun K hK => ?_)
              refine goes_ Try.func15 (by kernel_rfl) rfl #[.agg #[.slice Ao8 t355.length co8, .slice Ao10 t358.length co10, .int .i64 t361, .int .i64 t362]] (by rfl) rfl rfl (by (try simp only [List.map_toArray, List.map_cons, List.map_nil]); first | done | rfl | (simp only [List.length_drop, List.length_take]; rfl)) ?_
              with_reducible refine (spec_DiskOk.calls k _ _ t355 _ _ t358 t361 t362 true _ ?side1 ?side2 ?side3 ?side4 A20.out).mono ?_
              (case side1 => repeat (first | exact (Kd.zQ HO357.out).2.2 | (with_reducible refine Kd.zC ?_ _) | (with_reducible refine Kd.zD ?_ _) | (with_reducible refine Kd.zH ?_)))
              (case side2 => exact (Kd.zQ HO357.out).2.1)
              (case side3 => repeat (first | exact (Kd.qW HO360.out).2.2 | (with_reducible refine Kd.zC ?_ _) | (with_reducible refine Kd.zD ?_ _) | (with_reducible refine Kd.zH ?_)))
              (case side4 => exact (Kd.qW HO360.out).2.1)
              rintro e w44 ⟨rfl, hb⟩
              refine ⟨_, rfl, ?_⟩
              have n0_ := Aside0.mk (Kd.zZ (by (with_reducible repeat (first | apply Kd.zL | apply Kd.zM | apply Kd.zN)); exact HO357.out) hb)
              have n1_ := Aside0.mk (Kd.zA (by (with_reducible repeat (first | apply Kd.qK | apply Kd.qJ | apply Kd.qL)); exact HO360.out) hb)
              have n2_ := Aside0.mk (Kd.zA (by (with_reducible repeat (first | apply Kd.qK | apply Kd.qJ | apply Kd.qL)); exact HO368.out) hb)
              have n3_ := Aside0.mk (Kd.zA (by (with_reducible repeat (first | apply Kd.qK | apply Kd.qJ | apply Kd.qL)); exact HO371.out) hb)
              have n4_ := Aside0.mk (Kd.zA (by (with_reducible repeat (first | apply Kd.qK | apply Kd.qJ | apply Kd.qL)); exact HO377.out) hb)
              have n5_ := Aside0.mk (Kd.zA (by (with_reducible repeat (first | apply Kd.qK | apply Kd.qJ | apply Kd.qL)); exact HO380.out) hb)
              have n6_ := Aside0.mk (qM (g := gb365) (o := .cells #[.slice Ao8 t355.length co8, .slice Ao10 t358.length co10, .int .i64 t361, .int .i64 t362] 26 (0, 0)) (by (with_reducible repeat (first | refine qC ?_ _ | refine qF ?_ | refine qA ?_ _)); exact BK365.out) hb)
              have n7_ := Aside0.mk (qM (g := gb374) (o := .cells #[.slice Ao13 t366.length co13, .slice Ao16 t369.length co16, .int .i64 t372, .int .i64 t373] 26 (0, 0)) (by (with_reducible repeat (first | refine qC ?_ _ | refine qF ?_ | refine qA ?_ _)); exact BK374.out) hb)
              have n8_ := Aside0.mk (qO (by repeat (first | (with_reducible first | exact HB.out | apply qI | apply qD | apply qH | refine qG ?_ GE365.out | refine qG ?_ GE374.out) | exact HB.out)) hb)
              clear HO357
              clear HO360
              clear HO368
              clear HO371
              clear HO377
              clear HO380
              clear BK365
              clear BK374
              clear HB
              have HO357 := n0_
              have HO360 := n1_
              have HO368 := n2_
              have HO371 := n3_
              have HO377 := n4_
              have HO380 := n5_
              have BK365 := n6_
              have BK374 := n7_
              have HB := n8_
              clear n0_ n1_ n2_ n3_ n4_ n5_ n6_ n7_ n8_
              (try clear hb)
              (try clear hb2)
              (try clear hk)
              (try clear hi)
              refine hK.out _ _ ⟨(qB BK374.out 0).trans rfl, (qB BK374.out 1).trans rfl, (qB BK374.out 2).trans rfl, (qB BK374.out 3).trans rfl, (qB BK365.out 0).trans rfl, (qB BK365.out 1).trans rfl, (qB BK365.out 2).trans rfl, (qB BK365.out 3).trans rfl⟩ (fun hHeld => ?_)
              clear hK K
              refine norm_ (a' := ?_) ?_ ?_
              rotate_left
              · show Act.put _ (some 32) _ = _
                simp only [Act.put, List.setIfInBounds_toArray, List.set_cons_zero, List.set_cons_succ, i64_w, i32_w]
                rfl
              refine pure_ (i := 9) (N := some 33) (v := ?_) (a' := ?_) #[true, true, true, true, true, true, true, true, true, true, false, false, false, false, false, false, false, false, false, false, false, false, false, false, false] rfl rfl (zE HT_.out (by kernel_rfl)) (fun _ _ _ h => h) (Or.inl ⟨by rfl, ?_⟩) ?_ ?_
              rotate_left
              · intro w'
                go_simp
                with_reducible rfl
              rotate_left
              · simp only [Act.put, List.setIfInBounds_toArray, List.set_cons_zero, List.set_cons_succ, i64_w, i32_w]
                rfl
              refine pure_ (i := 10) (N := some 34) (v := ?_) (a' := ?_) #[true, true, true, true, true, true, true, true, true, true, true, false, false, false, false, false, false, false, false, false, false, false, false, false, false] rfl rfl (zE HT_.out (by kernel_rfl)) (fun _ _ _ h => h) (Or.inl ⟨by rfl, ?_⟩) ?_ ?_
              rotate_left
              · intro w'
                go_simp
                with_reducible rfl
              rotate_left
              · simp only [Act.put, List.setIfInBounds_toArray, List.set_cons_zero, List.set_cons_succ, i64_w, i32_w]
                rfl
              refine pure_ (i := 11) (N := some 35) (v := ?_) (a' := ?_) #[true, true, true, true, true, true, true, true, true, true, true, true, false, false, false, false, false, false, false, false, false, false, false, false, false] rfl rfl (zE HT_.out (by kernel_rfl)) (fun _ _ _ h => h) (Or.inl ⟨by rfl, ?_⟩) ?_ ?_
              rotate_left
              · intro w'
                go_simp
                with_reducible rfl
              rotate_left
              · simp only [Act.put, List.setIfInBounds_toArray, List.set_cons_zero, List.set_cons_succ, i64_w, i32_w]
                rfl
              refine pure_ (i := 12) (N := some 36) (v := ?_) (a' := ?_) #[true, true, true, true, true, true, true, true, true, true, true, true, true, false, false, false, false, false, false, false, false, false, false, false, false] rfl rfl (zE HT_.out (by kernel_rfl)) (fun _ _ _ h => h) (Or.inl ⟨by rfl, ?_⟩) ?_ ?_
              rotate_left
              · intro w'
                go_simp
                with_reducible rfl
              rotate_left
              · simp only [Act.put, List.setIfInBounds_toArray, List.set_cons_zero, List.set_cons_succ, i64_w, i32_w]
                rfl
              refine pure_ (i := 13) (N := some 37) (v := ?_) (a' := ?_) #[true, true, true, true, true, true, true, true, true, true, true, true, true, true, false, false, false, false, false, false, false, false, false, false, false] rfl rfl (zE HT_.out (by kernel_rfl)) (fun _ _ _ h => h) (Or.inl ⟨by rfl, ?_⟩) ?_ ?_
              rotate_left
              · intro w'
                go_simp
                with_reducible rfl
              rotate_left
              · simp only [Act.put, List.setIfInBounds_toArray, List.set_cons_zero, List.set_cons_succ, i64_w, i32_w]
                rfl
              refine pure_ (i := 14) (N := some 38) (v := ?_) (a' := ?_) #[true, true, true, true, true, true, true, true, true, true, true, true, true, true, true, false, false, false, false, false, false, false, false, false, false] rfl rfl (zE HT_.out (by kernel_rfl)) (fun _ _ _ h => h) (Or.inl ⟨by rfl, ?_⟩) ?_ ?_
              rotate_left
              · intro w'
                go_simp
                with_reducible rfl
              rotate_left
              · simp only [Act.put, List.setIfInBounds_toArray, List.set_cons_zero, List.set_cons_succ, i64_w, i32_w]
                rfl
              refine pure_ (i := 15) (N := some 39) (v := ?_) (a' := ?_) #[true, true, true, true, true, true, true, true, true, true, true, true, true, true, true, true, false, false, false, false, false, false, false, false, false] rfl rfl (zE HT_.out (by kernel_rfl)) (fun _ _ _ h => h) (Or.inl ⟨by rfl, ?_⟩) ?_ ?_
              rotate_left
              · intro w'
                go_simp
                with_reducible rfl
              rotate_left
              · simp only [Act.put, List.setIfInBounds_toArray, List.set_cons_zero, List.set_cons_succ, i64_w, i32_w]
                rfl
              refine pure_ (i := 16) (N := some 40) (v := ?_) (a' := ?_) #[true, true, true, true, true, true, true, true, true, true, true, true, true, true, true, true, true, false, false, false, false, false, false, false, false] rfl rfl (zE HT_.out (by kernel_rfl)) (fun _ _ _ h => h) (Or.inl ⟨by rfl, ?_⟩) ?_ ?_
              rotate_left
              · intro w'
                go_simp
                with_reducible rfl
              rotate_left
              · simp only [Act.put, List.setIfInBounds_toArray, List.set_cons_zero, List.set_cons_succ, i64_w, i32_w]
                rfl
              refine pure_ (i := 17) (N := some 41) (v := ?_) (a' := ?_) #[true, true, true, true, true, true, true, true, true, true, true, true, true, true, true, true, true, true, false, false, false, false, false, false, false] rfl rfl (zE HT_.out (by kernel_rfl)) (fun _ _ _ h => h) (Or.inl ⟨by rfl, ?_⟩) ?_ ?_
              rotate_left
              · intro w'
                go_simp
                with_reducible rfl
              rotate_left
              · simp only [Act.put, List.setIfInBounds_toArray, List.set_cons_zero, List.set_cons_succ, i64_w, i32_w]
                rfl
              refine pure_ (i := 18) (N := some 42) (v := ?_) (a' := ?_) #[true, true, true, true, true, true, true, true, true, true, true, true, true, true, true, true, true, true, true, false, false, false, false, false, false] rfl rfl (zE HT_.out (by kernel_rfl)) (fun _ _ _ h => h) (Or.inl ⟨by rfl, ?_⟩) ?_ ?_
              rotate_left
              · intro w'
                go_simp
                with_reducible rfl
              rotate_left
              · simp only [Act.put, List.setIfInBounds_toArray, List.set_cons_zero, List.set_cons_succ, i64_w, i32_w]
                rfl
              refine pure_ (i := 19) (N := some 43) (v := ?_) (a' := ?_) #[true, true, true, true, true, true, true, true, true, true, true, true, true, true, true, true, true, true, true, true, false, false, false, false, false] rfl rfl (zE HT_.out (by kernel_rfl)) (fun _ _ _ h => h) (Or.inl ⟨by rfl, ?_⟩) ?_ ?_
              rotate_left
              · intro w'
                go_simp
                with_reducible rfl
              rotate_left
              · simp only [Act.put, List.setIfInBounds_toArray, List.set_cons_zero, List.set_cons_succ, i64_w, i32_w]
                rfl
              refine pure_ (i := 20) (N := some 44) (v := ?_) (a' := ?_) #[true, true, true, true, true, true, true, true, true, true, true, true, true, true, true, true, true, true, true, true, true, false, false, false, false] rfl rfl (zE HT_.out (by kernel_rfl)) (fun _ _ _ h => h) (Or.inl ⟨by rfl, ?_⟩) ?_ ?_
              rotate_left
              · intro w'
                go_simp
                with_reducible rfl
              rotate_left
              · simp only [Act.put, List.setIfInBounds_toArray, List.set_cons_zero, List.set_cons_succ, i64_w, i32_w]
                rfl
              refine take_ (i := 21) (N := some 45) (v := ?_) (a' := ?_) #[true, true, true, true, true, true, true, true, true, true, true, true, true, true, true, true, true, true, true, true, true, true, false, false, false] rfl rfl (zU HT_.out HW_.out (by kernel_rfl)) (fun _ _ _ h => h) (Or.inl ⟨by rfl, ?_⟩) hHeld ?_ ?_
              rotate_left
              · rintro w' ⟨s0, s1, s2, s3, s4, s5, s6, s7⟩
                go_simp
                with_reducible rfl
              rotate_left
              · simp only [Act.put, List.setIfInBounds_toArray, List.set_cons_zero, List.set_cons_succ, i64_w, i32_w]
                rfl
              refine pure_ (i := 22) (N := some 46) (v := ?_) (a' := ?_) #[true, true, true, true, true, true, true, true, true, true, true, true, true, true, true, true, true, true, true, true, true, true, true, false, false] rfl rfl (zE HT_.out (by kernel_rfl)) (fun _ _ _ h => h) (Or.inl ⟨by rfl, ?_⟩) ?_ ?_
              rotate_left
              · intro w'
                go_simp
                with_reducible rfl
              rotate_left
              · simp only [Act.put, List.setIfInBounds_toArray, List.set_cons_zero, List.set_cons_succ, i64_w, i32_w]
                rfl
              refine pure_ (i := 23) (N := some 47) (v := ?_) (a' := ?_) #[true, true, true, true, true, true, true, true, true, true, true, true, true, true, true, true, true, true, true, true, true, true, true, true, false] rfl rfl (zE HT_.out (by kernel_rfl)) (fun _ _ _ h => h) (Or.inl ⟨by rfl, ?_⟩) ?_ ?_
              rotate_left
              · intro w'
                go_simp
                with_reducible rfl
              rotate_left
              · simp only [Act.put, List.setIfInBounds_toArray, List.set_cons_zero, List.set_cons_succ, i64_w, i32_w]
                rfl
              refine pure_ (i := 24) (N := some 48) (v := ?_) (a' := ?_) #[true, true, true, true, true, true, true, true, true, true, true, true, true, true, true, true, true, true, true, true, true, true, true, true, true] rfl rfl (zE HT_.out (by kernel_rfl)) (fun _ _ _ h => h) (Or.inl ⟨by rfl, ?_⟩) ?_ ?_
              rotate_left
              · intro w'
                go_simp
                with_reducible rfl
              rotate_left
              · simp only [Act.put, List.setIfInBounds_toArray, List.set_cons_zero, List.set_cons_succ, i64_w, i32_w]
                rfl
              refine done_ (done_of HT_.out (by kernel_rfl)) ?_
              try go_wp2
              go_meet
              case rel => exact ⟨_, (decide ((t358.length : Int) > 50)), (by first | rfl | (simp; done) | (simp [*]; done)), H', ⟨by first | omega | exact Nat.le_refl _⟩, ⟨by (with_reducible repeat (first | apply Kd.zL | apply Kd.zM | apply Kd.zN)); exact Kd.zX HO357.out (fun _ hk => hk.1)⟩, ⟨by (with_reducible repeat (first | apply Kd.qK | apply Kd.qJ | apply Kd.qL)); exact Kd.qV HO360.out (fun _ hk => hk.1)⟩, ⟨Kd.Q_of_R (by (with_reducible repeat (first | apply Kd.qK | apply Kd.qJ | apply Kd.qL)); exact Kd.qV HO368.out (fun _ hk => hk.1))⟩, ⟨by (with_reducible repeat (first | apply Kd.qK | apply Kd.qJ | apply Kd.qL)); exact Kd.qV HO371.out (fun _ hk => hk.1)⟩, ⟨by (with_reducible repeat (first | refine qC ?_ _ | refine qF ?_ | refine qA ?_ _)); exact BK365.out⟩, ⟨by (with_reducible repeat (first | refine qC ?_ _ | refine qF ?_ | refine qA ?_ _)); exact BK374.out⟩, ⟨by repeat (first | (with_reducible first | exact HB.out | apply qI | apply qD | apply qH | refine qG ?_ GE365.out | refine qG ?_ GE374.out) | exact HB.out)⟩⟩
        · replace c21 := Bool.eq_false_iff.mpr c21
          subst c21
          have H1 : (laws_FnDiskRoom.j0 k t363 true t355 t358 t361 t362 t366 t369 t372 t373) = some true := by rw [if_neg (show ¬ (false = true) by decide)] at H; exact H
          clear H
          have H := H1
          clear H1
          have H' := Aside0.mk H
          clear H
          try go_wp2
          have n0_ : Aside0 (Kd.Q Kd.string 9 ((((w12.setCell ⟨gb374, 0, none⟩ (.slice Ao13 t366.length co13)).setCell ⟨gb374, 1, none⟩ (.slice Ao16 t369.length co16)).setCell ⟨gb374, 2, none⟩ (.int .i64 t372)).setCell ⟨gb374, 3, none⟩ (.int .i64 t373)) w.heap.size (fun k_ => some k_ ≠ (.slice Ao13 t366.length co13 : Value).ownBlock) (.slice Ao8 t355.length co8) t355) := ⟨by (with_reducible repeat (first | apply Kd.zL | apply Kd.zM | apply Kd.zN)); exact Kd.zX (Kd.Q_far (p := ⟨gb374, 3, none⟩) (Kd.Q_far (p := ⟨gb374, 2, none⟩) (Kd.Q_far (p := ⟨gb374, 1, none⟩) (Kd.Q_far (p := ⟨gb374, 0, none⟩) (Kd.xB HO357.out BK374.out (by decide)) (fun _ hk => hk.2) (.slice Ao13 t366.length co13)) (fun _ hk => hk.2) (.slice Ao16 t369.length co16)) (fun _ hk => hk.2) (.int .i64 t372)) (fun _ hk => hk.2) (.int .i64 t373)) (fun _ hk => hk.1.2)⟩
          have n1_ : Aside0 (Kd.R k70 70 ((((w12.setCell ⟨gb374, 0, none⟩ (.slice Ao13 t366.length co13)).setCell ⟨gb374, 1, none⟩ (.slice Ao16 t369.length co16)).setCell ⟨gb374, 2, none⟩ (.int .i64 t372)).setCell ⟨gb374, 3, none⟩ (.int .i64 t373)) w.heap.size (fun k_ => some k_ ≠ (.slice Ao16 t369.length co16 : Value).ownBlock) (.slice Ao10 t358.length co10) t358) := ⟨by (with_reducible repeat (first | apply Kd.qK | apply Kd.qJ | apply Kd.qL)); exact Kd.qV (Kd.R_far (p := ⟨gb374, 3, none⟩) (Kd.R_far (p := ⟨gb374, 2, none⟩) (Kd.R_far (p := ⟨gb374, 1, none⟩) (Kd.R_far (p := ⟨gb374, 0, none⟩) (Kd.qX HO360.out BK374.out (by decide)) (fun _ hk => hk.2) (.slice Ao13 t366.length co13)) (fun _ hk => hk.2) (.slice Ao16 t369.length co16)) (fun _ hk => hk.2) (.int .i64 t372)) (fun _ hk => hk.2) (.int .i64 t373)) (fun _ hk => hk.1.2)⟩
          have n2_ : Aside0 (Kd.R Kd.string 9 ((((w12.setCell ⟨gb374, 0, none⟩ (.slice Ao13 t366.length co13)).setCell ⟨gb374, 1, none⟩ (.slice Ao16 t369.length co16)).setCell ⟨gb374, 2, none⟩ (.int .i64 t372)).setCell ⟨gb374, 3, none⟩ (.int .i64 t373)) w.heap.size (fun k_ => some k_ ≠ (.slice Ao8 t355.length co8 : Value).ownBlock) (.slice Ao13 t366.length co13) t366) := ⟨by (with_reducible repeat (first | apply Kd.qK | apply Kd.qJ | apply Kd.qL)); exact Kd.qV (Kd.R_far (p := ⟨gb374, 3, none⟩) (Kd.R_far (p := ⟨gb374, 2, none⟩) (Kd.R_far (p := ⟨gb374, 1, none⟩) (Kd.R_far (p := ⟨gb374, 0, none⟩) (Kd.qX HO368.out BK374.out (by decide)) (fun _ hk => hk.2) (.slice Ao13 t366.length co13)) (fun _ hk => hk.2) (.slice Ao16 t369.length co16)) (fun _ hk => hk.2) (.int .i64 t372)) (fun _ hk => hk.2) (.int .i64 t373)) (fun _ hk => hk.1.2)⟩
          have n3_ : Aside0 (Kd.R k70 70 ((((w12.setCell ⟨gb374, 0, none⟩ (.slice Ao13 t366.length co13)).setCell ⟨gb374, 1, none⟩ (.slice Ao16 t369.length co16)).setCell ⟨gb374, 2, none⟩ (.int .i64 t372)).setCell ⟨gb374, 3, none⟩ (.int .i64 t373)) w.heap.size (fun k_ => some k_ ≠ (.slice Ao10 t358.length co10 : Value).ownBlock) (.slice Ao16 t369.length co16) t369) := ⟨by (with_reducible repeat (first | apply Kd.qK | apply Kd.qJ | apply Kd.qL)); exact Kd.qV (Kd.R_far (p := ⟨gb374, 3, none⟩) (Kd.R_far (p := ⟨gb374, 2, none⟩) (Kd.R_far (p := ⟨gb374, 1, none⟩) (Kd.R_far (p := ⟨gb374, 0, none⟩) (Kd.qX HO371.out BK374.out (by decide)) (fun _ hk => hk.2) (.slice Ao13 t366.length co13)) (fun _ hk => hk.2) (.slice Ao16 t369.length co16)) (fun _ hk => hk.2) (.int .i64 t372)) (fun _ hk => hk.2) (.int .i64 t373)) (fun _ hk => hk.1.2)⟩
          have n4_ : Aside0 (((((w12.setCell ⟨gb374, 0, none⟩ (.slice Ao13 t366.length co13)).setCell ⟨gb374, 1, none⟩ (.slice Ao16 t369.length co16)).setCell ⟨gb374, 2, none⟩ (.int .i64 t372)).setCell ⟨gb374, 3, none⟩ (.int .i64 t373)).heap[gb365]? = some (.cells #[.slice Ao8 t355.length co8, .slice Ao10 t358.length co10, .int .i64 t361, .int .i64 t362] 26 (0, 0))) := ⟨by (with_reducible repeat (first | refine qC ?_ _ | refine qF ?_ | refine qA ?_ _)); refine qU ?_ NB365_374.out _; (with_reducible repeat (first | refine qC ?_ _ | refine qF ?_ | refine qA ?_ _)); refine qU ?_ NB365_374.out _; (with_reducible repeat (first | refine qC ?_ _ | refine qF ?_ | refine qA ?_ _)); refine qU ?_ NB365_374.out _; (with_reducible repeat (first | refine qC ?_ _ | refine qF ?_ | refine qA ?_ _)); refine qU ?_ NB365_374.out _; (with_reducible repeat (first | refine qC ?_ _ | refine qF ?_ | refine qA ?_ _)); exact BK365.out⟩
          have n5_ : Aside0 (((((w12.setCell ⟨gb374, 0, none⟩ (.slice Ao13 t366.length co13)).setCell ⟨gb374, 1, none⟩ (.slice Ao16 t369.length co16)).setCell ⟨gb374, 2, none⟩ (.int .i64 t372)).setCell ⟨gb374, 3, none⟩ (.int .i64 t373)).heap[gb374]? = some (.cells #[.slice Ao13 t366.length co13, .slice Ao16 t369.length co16, .int .i64 t372, .int .i64 t373] 26 (0, 0))) := ⟨by (with_reducible repeat (first | refine qC ?_ _ | refine qF ?_ | refine qA ?_ _)); refine qR (cs := #[.slice Ao13 t366.length co13, .slice Ao16 t369.length co16, .int .i64 t372, .int .i64 0]) ?_ 3 _ rfl; (with_reducible repeat (first | refine qC ?_ _ | refine qF ?_ | refine qA ?_ _)); refine qR (cs := #[.slice Ao13 t366.length co13, .slice Ao16 t369.length co16, .int .i64 0, .int .i64 0]) ?_ 2 _ rfl; (with_reducible repeat (first | refine qC ?_ _ | refine qF ?_ | refine qA ?_ _)); refine qR (cs := #[.slice Ao13 t366.length co13, .slice none 0 0, .int .i64 0, .int .i64 0]) ?_ 1 _ rfl; (with_reducible repeat (first | refine qC ?_ _ | refine qF ?_ | refine qA ?_ _)); refine qR (cs := #[.slice none 0 0, .slice none 0 0, .int .i64 0, .int .i64 0]) ?_ 0 _ rfl; (with_reducible repeat (first | refine qC ?_ _ | refine qF ?_ | refine qA ?_ _)); exact BK374.out⟩
          have n6_ : Aside0 (Below w.heap.size w ((((w12.setCell ⟨gb374, 0, none⟩ (.slice Ao13 t366.length co13)).setCell ⟨gb374, 1, none⟩ (.slice Ao16 t369.length co16)).setCell ⟨gb374, 2, none⟩ (.int .i64 t372)).setCell ⟨gb374, 3, none⟩ (.int .i64 t373))) := ⟨by repeat (first | (with_reducible first | exact HB.out | apply qI | apply qD | apply qH | refine qG ?_ GE365.out | refine qG ?_ GE374.out) | exact HB.out)⟩
          (try clear HO357)
          (try clear HO360)
          (try clear HO368)
          (try clear HO371)
          (try clear BK365)
          (try clear BK374)
          (try clear HB)
          generalize ((((w12.setCell ⟨gb374, 0, none⟩ (.slice Ao13 t366.length co13)).setCell ⟨gb374, 1, none⟩ (.slice Ao16 t369.length co16)).setCell ⟨gb374, 2, none⟩ (.int .i64 t372)).setCell ⟨gb374, 3, none⟩ (.int .i64 t373)) = w45 at n0_ n1_ n2_ n3_ n4_ n5_ n6_ ⊢
          have HO357 := n0_
          have HO360 := n1_
          have HO368 := n2_
          have HO371 := n3_
          have BK365 := n4_
          have BK374 := n5_
          have HB := n6_
          clear n0_ n1_ n2_ n3_ n4_ n5_ n6_
          have n0_ := Aside0.mk (Kd.zN HO357.out)
          have n1_ := Aside0.mk (Kd.qL HO360.out)
          have n2_ := Aside0.mk (Kd.qL HO368.out)
          have n3_ := Aside0.mk (Kd.qL HO371.out)
          have n4_ := Aside0.mk (qF BK365.out)
          have n5_ := Aside0.mk (qF BK374.out)
          have n6_ := Aside0.mk (qH HB.out)
          clear HO357
          clear HO360
          clear HO368
          clear HO371
          clear BK365
          clear BK374
          clear HB
          have HO357 := n0_
          have HO360 := n1_
          have HO368 := n2_
          have HO371 := n3_
          have BK365 := n4_
          have BK374 := n5_
          have HB := n6_
          clear n0_ n1_ n2_ n3_ n4_ n5_ n6_
          refine start_ (n := 25) (S := fun w' => w'.cell? ⟨gb374, 0, none⟩ = some (.slice Ao13 t366.length co13) ∧ w'.cell? ⟨gb374, 1, none⟩ = some (.slice Ao16 t369.length co16) ∧ w'.cell? ⟨gb374, 2, none⟩ = some (.int .i64 t372) ∧ w'.cell? ⟨gb374, 3, none⟩ = some (.int .i64 t373) ∧ w'.cell? ⟨gb365, 0, none⟩ = some (.slice Ao8 t355.length co8) ∧ w'.cell? ⟨gb365, 1, none⟩ = some (.slice Ao10 t358.length co10) ∧ w'.cell? ⟨gb365, 2, none⟩ = some (.int .i64 t361) ∧ w'.cell? ⟨gb365, 3, none⟩ = some (.int .i64 t362)) (ds := []) #[false, false, false, false, false, false, false, false, false, false, false, false, false, false, false, false, false, false, false, false, false, false, false, false, false] (by kernel_rfl) rfl rfl ⟨(qB BK374.out 0).trans rfl, (qB BK374.out 1).trans rfl, (qB BK374.out 2).trans rfl, (qB BK374.out 3).trans rfl, (qB BK365.out 0).trans rfl, (qB BK365.out 1).trans rfl, (qB BK365.out 2).trans rfl, (qB BK365.out 3).trans rfl⟩ (fun hHeld => ?_); refine xH laws_FnDiskRoom.tab5 laws_FnDiskRoom.bits5 (fun HT_ HW_ => ?_)
          generalize w45.drew = w46 at HO357 HO360 HO368 HO371 BK365 BK374 HB hHeld ⊢
          refine pure_ (i := 2) (N := some 26) (v := ?_) (a' := ?_) #[false, false, true, false, false, false, false, false, false, false, false, false, false, false, false, false, false, false, false, false, false, false, false, false, false] rfl rfl (zE HT_.out (by kernel_rfl)) (fun _ _ _ h => h) (Or.inl ⟨by rfl, ?_⟩) ?_ ?_
          rotate_left
          · intro w'
            go_simp
            with_reducible rfl
          rotate_left
          · simp only [Act.put, List.setIfInBounds_toArray, List.set_cons_zero, List.set_cons_succ, i64_w, i32_w]
            rfl
          refine take_ (i := 0) (N := some 24) (v := ?_) (a' := ?_) #[true, false, true, false, false, false, false, false, false, false, false, false, false, false, false, false, false, false, false, false, false, false, false, false, false] rfl rfl (zU HT_.out HW_.out (by kernel_rfl)) (fun _ _ _ h => h) (Or.inl ⟨by rfl, ?_⟩) hHeld ?_ ?_
          rotate_left
          · rintro w' ⟨s0, s1, s2, s3, s4, s5, s6, s7⟩
            go_simp
            with_reducible rfl
          rotate_left
          · simp only [Act.put, List.setIfInBounds_toArray, List.set_cons_zero, List.set_cons_succ, i64_w, i32_w]
            rfl
          refine take_ (i := 1) (N := some 25) (v := ?_) (a' := ?_) #[true, true, true, false, false, false, false, false, false, false, false, false, false, false, false, false, false, false, false, false, false, false, false, false, false] rfl rfl (zU HT_.out HW_.out (by kernel_rfl)) (fun _ _ _ h => h) (Or.inl ⟨by rfl, ?_⟩) hHeld ?_ ?_
          rotate_left
          · rintro w' ⟨s0, s1, s2, s3, s4, s5, s6, s7⟩
            go_simp
            with_reducible rfl
          rotate_left
          · simp only [Act.put, List.setIfInBounds_toArray, List.set_cons_zero, List.set_cons_succ, i64_w, i32_w]
            rfl
          refine one_ (i := 3) (N := some 27) #[true, true, true, true, false, false, false, false, false, false, false, false, false, false, false, false, false, false, false, false, false, false, false, false, false] rfl rfl (zW HT_.out (by kernel_rfl)) (by decide) (fun K hK => ?_)
          refine goes_ Try.func14 (by kernel_rfl) rfl #[.agg #[.slice Ao8 t355.length co8, .slice Ao10 t358.length co10, .int .i64 t361, .int .i64 t362], .int .i64 t363, .int .i64 (-1)] (by rfl) rfl rfl (by (try simp only [List.map_toArray, List.map_cons, List.map_nil]); first | done | rfl | (simp only [List.length_drop, List.length_take]; rfl)) ?_
          with_reducible refine (spec_DiskSet.calls k _ _ t355 _ _ t358 t361 t362 t363 (-1) t375 t378 t381 t382 _ ?side1 ?side2 ?side3 ?side4 A17.out).mono ?_
          (case side1 => repeat (first | exact (Kd.zQ HO357.out).2.2 | (with_reducible refine Kd.zC ?_ _) | (with_reducible refine Kd.zD ?_ _) | (with_reducible refine Kd.zH ?_)))
          (case side2 => exact (Kd.zQ HO357.out).2.1)
          (case side3 => repeat (first | exact (Kd.qW HO360.out).2.2 | (with_reducible refine Kd.zC ?_ _) | (with_reducible refine Kd.zD ?_ _) | (with_reducible refine Kd.zH ?_)))
          (case side4 => exact (Kd.qW HO360.out).2.1)
          rintro e w47 ⟨v376, v379, rfl, ho0, ho1, hb⟩
          refine ⟨_, rfl, ?_⟩
          have n0_ := Aside0.mk (Kd.xF (by (with_reducible repeat (first | apply Kd.zL | apply Kd.zM | apply Kd.zN)); exact HO357.out) (Kd.zS ho0) hb)
          have n1_ := Aside0.mk (Kd.zR (by (with_reducible repeat (first | apply Kd.qK | apply Kd.qJ | apply Kd.qL)); exact HO360.out) (Kd.zS ho1) hb)
          have n2_ := Aside0.mk (Kd.zR (by (with_reducible repeat (first | apply Kd.qK | apply Kd.qJ | apply Kd.qL)); exact HO368.out) (Kd.zS ho0) hb)
          have n3_ := Aside0.mk (Kd.zR (by (with_reducible repeat (first | apply Kd.qK | apply Kd.qJ | apply Kd.qL)); exact HO371.out) (Kd.zS ho1) hb)
          have n4_ := Aside0.mk (Kd.zJ (Kd.zT (Kd.zT ho0 (Kd.Q_lt (by (with_reducible repeat (first | apply Kd.zL | apply Kd.zM | apply Kd.zN)); exact HO357.out))) (Kd.R_lt (by (with_reducible repeat (first | apply Kd.qK | apply Kd.qJ | apply Kd.qL)); exact HO368.out))) (qN (by repeat (first | (with_reducible first | exact HB.out | apply qI | apply qD | apply qH | refine qG ?_ GE365.out | refine qG ?_ GE374.out) | exact HB.out))))
          have n5_ := Aside0.mk (Kd.zJ (Kd.zT (Kd.zT ho1 (Kd.R_lt (by (with_reducible repeat (first | apply Kd.qK | apply Kd.qJ | apply Kd.qL)); exact HO360.out))) (Kd.R_lt (by (with_reducible repeat (first | apply Kd.qK | apply Kd.qJ | apply Kd.qL)); exact HO371.out))) (qN (by repeat (first | (with_reducible first | exact HB.out | apply qI | apply qD | apply qH | refine qG ?_ GE365.out | refine qG ?_ GE374.out) | exact HB.out))))
          have n6_ := Aside0.mk (qM (g := gb365) (o := .cells #[.slice Ao8 t355.length co8, .slice Ao10 t358.length co10, .int .i64 t361, .int .i64 t362] 26 (0, 0)) (by (with_reducible repeat (first | refine qC ?_ _ | refine qF ?_ | refine qA ?_ _)); exact BK365.out) hb)
          have n7_ := Aside0.mk (qM (g := gb374) (o := .cells #[.slice Ao13 t366.length co13, .slice Ao16 t369.length co16, .int .i64 t372, .int .i64 t373] 26 (0, 0)) (by (with_reducible repeat (first | refine qC ?_ _ | refine qF ?_ | refine qA ?_ _)); exact BK374.out) hb)
          have n8_ := Aside0.mk (qO (by repeat (first | (with_reducible first | exact HB.out | apply qI | apply qD | apply qH | refine qG ?_ GE365.out | refine qG ?_ GE374.out) | exact HB.out)) hb)
          clear HO357
          clear HO360
          clear HO368
          clear HO371
          clear BK365
          clear BK374
          clear HB
          have HO357 := n0_
          have HO360 := n1_
          have HO368 := n2_
          have HO371 := n3_
          have HO377 := n4_
          have HO380 := n5_
          have BK365 := n6_
          have BK374 := n7_
          have HB := n8_
          clear n0_ n1_ n2_ n3_ n4_ n5_ n6_ n7_ n8_
          (try clear hb)
          (try clear hb2)
          (try clear hk)
          (try clear hi)
          (try clear ho0)
          (try clear ho1)
          obtain ⟨Ao48, co48, eo48⟩ := Kd.zF HO377.out
          (first | subst eo48 | (injection eo48 with f1_ f2_ f3_; have f4_ := f1_.symm; have f5_ := f3_.symm; clear f1_ f2_ f3_; subst f4_; subst f5_))
          obtain ⟨Ao49, co49, eo49⟩ := Kd.zF HO380.out
          (first | subst eo49 | (injection eo49 with f1_ f2_ f3_; have f4_ := f1_.symm; have f5_ := f3_.symm; clear f1_ f2_ f3_; subst f4_; subst f5_))
          refine hK.out _ _ ⟨(qB BK374.out 0).trans rfl, (qB BK374.out 1).trans rfl, (qB BK374.out 2).trans rfl, (qB BK374.out 3).trans rfl, (qB BK365.out 0).trans rfl, (qB BK365.out 1).trans rfl, (qB BK365.out 2).trans rfl, (qB BK365.out 3).trans rfl⟩ (fun hHeld => ?_)
          clear hK K
          refine norm_ (a' := ?_) ?_ ?_
          rotate_left
          · show Act.put _ (some 27) _ = _
            simp only [Act.put, List.setIfInBounds_toArray, List.set_cons_zero, List.set_cons_succ, i64_w, i32_w]
            rfl
          refine one_ (i := 4) (N := some 28) #[true, true, true, true, true, false, false, false, false, false, false, false, false, false, false, false, false, false, false, false, false, false, false, false, false] rfl rfl (zW HT_.out (by kernel_rfl)) (by decide) (fun K hK => ?_)
          refine goes_ Try.func13 (by kernel_rfl) rfl #[.agg #[.slice Ao13 t366.length co13, .slice Ao16 t369.length co16, .int .i64 t372, .int .i64 t373], .agg #[.slice Ao48 t375.length co48, .slice Ao49 t378.length co49, .int .i64 t381, .int .i64 t382]] (by rfl) rfl rfl (by (try simp only [List.map_toArray, List.map_cons, List.map_nil]); first | done | rfl | (simp only [List.length_drop, List.length_take]; rfl)) ?_
          with_reducible refine (laws_jtDisk.calls k _ _ t366 _ _ t369 t372 t373 _ _ t375 _ _ t378 t381 t382 true _ ?side1 ?side2 ?side3 ?side4 ?side5 ?side6 ?side7 ?side8 A18.out).mono ?_
          (case side1 => repeat (first | exact (Kd.qW HO368.out).2.2 | (with_reducible refine Kd.zC ?_ _) | (with_reducible refine Kd.zD ?_ _) | (with_reducible refine Kd.zH ?_)))
          (case side2 => exact (Kd.qW HO368.out).2.1)
          (case side3 => repeat (first | exact (Kd.qW HO371.out).2.2 | (with_reducible refine Kd.zC ?_ _) | (with_reducible refine Kd.zD ?_ _) | (with_reducible refine Kd.zH ?_)))
          (case side4 => exact (Kd.qW HO371.out).2.1)
          (case side5 => repeat (first | exact (Kd.qW HO377.out).2.2 | (with_reducible refine Kd.zC ?_ _) | (with_reducible refine Kd.zD ?_ _) | (with_reducible refine Kd.zH ?_)))
          (case side6 => exact (Kd.qW HO377.out).2.1)
          (case side7 => repeat (first | exact (Kd.qW HO380.out).2.2 | (with_reducible refine Kd.zC ?_ _) | (with_reducible refine Kd.zD ?_ _) | (with_reducible refine Kd.zH ?_)))
          (case side8 => exact (Kd.qW HO380.out).2.1)
          rintro e w50 ⟨rfl, hb⟩
          refine ⟨_, rfl, ?_⟩
          have n0_ := Aside0.mk (Kd.zZ (by (with_reducible repeat (first | apply Kd.zL | apply Kd.zM | apply Kd.zN)); exact HO357.out) hb)
          have n1_ := Aside0.mk (Kd.zA (by (with_reducible repeat (first | apply Kd.qK | apply Kd.qJ | apply Kd.qL)); exact HO360.out) hb)
          have n2_ := Aside0.mk (Kd.zA (by (with_reducible repeat (first | apply Kd.qK | apply Kd.qJ | apply Kd.qL)); exact HO368.out) hb)
          have n3_ := Aside0.mk (Kd.zA (by (with_reducible repeat (first | apply Kd.qK | apply Kd.qJ | apply Kd.qL)); exact HO371.out) hb)
          have n4_ := Aside0.mk (Kd.zA (by (with_reducible repeat (first | apply Kd.qK | apply Kd.qJ | apply Kd.qL)); exact HO377.out) hb)
          have n5_ := Aside0.mk (Kd.zA (by (with_reducible repeat (first | apply Kd.qK | apply Kd.qJ | apply Kd.qL)); exact HO380.out) hb)
          have n6_ := Aside0.mk (qM (g := gb365) (o := .cells #[.slice Ao8 t355.length co8, .slice Ao10 t358.length co10, .int .i64 t361, .int .i64 t362] 26 (0, 0)) (by (with_reducible repeat (first | refine qC ?_ _ | refine qF ?_ | refine qA ?_ _)); exact BK365.out) hb)
          have n7_ := Aside0.mk (qM (g := gb374) (o := .cells #[.slice Ao13 t366.length co13, .slice Ao16 t369.length co16, .int .i64 t372, .int .i64 t373] 26 (0, 0)) (by (with_reducible repeat (first | refine qC ?_ _ | refine qF ?_ | refine qA ?_ _)); exact BK374.out) hb)
          have n8_ := Aside0.mk (qO (by repeat (first | (with_reducible first | exact HB.out | apply qI | apply qD | apply qH | refine qG ?_ GE365.out | refine qG ?_ GE374.out) | exact HB.out)) hb)
          clear HO357
          clear HO360
          clear HO368
          clear HO371
          clear HO377
          clear HO380
          clear BK365
          clear BK374
          clear HB
          have HO357 := n0_
          have HO360 := n1_
          have HO368 := n2_
          have HO371 := n3_
          have HO377 := n4_
          have HO380 := n5_
          have BK365 := n6_
          have BK374 := n7_
          have HB := n8_
          clear n0_ n1_ n2_ n3_ n4_ n5_ n6_ n7_ n8_
          (try clear hb)
          (try clear hb2)
          (try clear hk)
          (try clear hi)
          refine hK.out _ _ ⟨(qB BK374.out 0).trans rfl, (qB BK374.out 1).trans rfl, (qB BK374.out 2).trans rfl, (qB BK374.out 3).trans rfl, (qB BK365.out 0).trans rfl, (qB BK365.out 1).trans rfl, (qB BK365.out 2).trans rfl, (qB BK365.out 3).trans rfl⟩ (fun hHeld => ?_)
          clear hK K
          refine norm_ (a' := ?_) ?_ ?_
          rotate_left
          · show Act.put _ (some 28) _ = _
            simp only [Act.put, List.setIfInBounds_toArray, List.set_cons_zero, List.set_cons_succ, i64_w, i32_w]
            rfl
          refine pure_ (i := 5) (N := some 29) (v := ?_) (a' := ?_) #[true, true, true, true, true, true, false, false, false, false, false, false, false, false, false, false, false, false, false, false, false, false, false, false, false] rfl rfl (zE HT_.out (by kernel_rfl)) (fun _ _ _ h => h) (Or.inl ⟨by rfl, ?_⟩) ?_ ?_
          rotate_left
          · intro w'
            go_simp
            with_reducible rfl
          rotate_left
          · simp only [Act.put, List.setIfInBounds_toArray, List.set_cons_zero, List.set_cons_succ, i64_w, i32_w]
            rfl
          refine pure_ (i := 6) (N := some 30) (v := ?_) (a' := ?_) #[true, true, true, true, true, true, true, false, false, false, false, false, false, false, false, false, false, false, false, false, false, false, false, false, false] rfl rfl (zE HT_.out (by kernel_rfl)) (fun _ _ _ h => h) (Or.inl ⟨by rfl, ?_⟩) ?_ ?_
          rotate_left
          · intro w'
            go_simp
            with_reducible rfl
          rotate_left
          · simp only [Act.put, List.setIfInBounds_toArray, List.set_cons_zero, List.set_cons_succ, i64_w, i32_w]
            rfl
          refine take_ (i := 7) (N := some 31) (v := ?_) (a' := ?_) #[true, true, true, true, true, true, true, true, false, false, false, false, false, false, false, false, false, false, false, false, false, false, false, false, false] rfl rfl (zU HT_.out HW_.out (by kernel_rfl)) (fun _ _ _ h => h) (Or.inl ⟨by rfl, ?_⟩) hHeld ?_ ?_
          rotate_left
          · rintro w' ⟨s0, s1, s2, s3, s4, s5, s6, s7⟩
            go_simp
            with_reducible rfl
          rotate_left
          · simp only [Act.put, List.setIfInBounds_toArray, List.set_cons_zero, List.set_cons_succ, i64_w, i32_w]
            rfl
          refine one_ (i := 8) (N := some 32) #[true, true, true, true, true, true, true, true, true, false, false, false, false, false, false, false, false, false, false, false, false, false, false, false, false] rfl rfl (zW HT_.out (by kernel_rfl)) (by decide) (fun K hK => ?_)
          refine goes_ Try.func15 (by kernel_rfl) rfl #[.agg #[.slice Ao8 t355.length co8, .slice Ao10 t358.length co10, .int .i64 t361, .int .i64 t362]] (by rfl) rfl rfl (by (try simp only [List.map_toArray, List.map_cons, List.map_nil]); first | done | rfl | (simp only [List.length_drop, List.length_take]; rfl)) ?_
          with_reducible refine (spec_DiskOk.calls k _ _ t355 _ _ t358 t361 t362 false _ ?side1 ?side2 ?side3 ?side4 A20.out).mono ?_
          (case side1 => repeat (first | exact (Kd.zQ HO357.out).2.2 | (with_reducible refine Kd.zC ?_ _) | (with_reducible refine Kd.zD ?_ _) | (with_reducible refine Kd.zH ?_)))
          (case side2 => exact (Kd.zQ HO357.out).2.1)
          (case side3 => repeat (first | exact (Kd.qW HO360.out).2.2 | (with_reducible refine Kd.zC ?_ _) | (with_reducible refine Kd.zD ?_ _) | (with_reducible refine Kd.zH ?_)))
          (case side4 => exact (Kd.qW HO360.out).2.1)
          rintro e w51 ⟨rfl, hb⟩
          refine ⟨_, rfl, ?_⟩
          have n0_ := Aside0.mk (Kd.zZ (by (with_reducible repeat (first | apply Kd.zL | apply Kd.zM | apply Kd.zN)); exact HO357.out) hb)
          have n1_ := Aside0.mk (Kd.zA (by (with_reducible repeat (first | apply Kd.qK | apply Kd.qJ | apply Kd.qL)); exact HO360.out) hb)
          have n2_ := Aside0.mk (Kd.zA (by (with_reducible repeat (first | apply Kd.qK | apply Kd.qJ | apply Kd.qL)); exact HO368.out) hb)
          have n3_ := Aside0.mk (Kd.zA (by (with_reducible repeat (first | apply Kd.qK | apply Kd.qJ | apply Kd.qL)); exact HO371.out) hb)
          have n4_ := Aside0.mk (Kd.zA (by (with_reducible repeat (first | apply Kd.qK | apply Kd.qJ | apply Kd.qL)); exact HO377.out) hb)
          have n5_ := Aside0.mk (Kd.zA (by (with_reducible repeat (first | apply Kd.qK | apply Kd.qJ | apply Kd.qL)); exact HO380.out) hb)
          have n6_ := Aside0.mk (qM (g := gb365) (o := .cells #[.slice Ao8 t355.length co8, .slice Ao10 t358.length co10, .int .i64 t361, .int .i64 t362] 26 (0, 0)) (by (with_reducible repeat (first | refine qC ?_ _ | refine qF ?_ | refine qA ?_ _)); exact BK365.out) hb)
          have n7_ := Aside0.mk (qM (g := gb374) (o := .cells #[.slice Ao13 t366.length co13, .slice Ao16 t369.length co16, .int .i64 t372, .int .i64 t373] 26 (0, 0)) (by (with_reducible repeat (first | refine qC ?_ _ | refine qF ?_ | refine qA ?_ _)); exact BK374.out) hb)
          have n8_ := Aside0.mk (qO (by repeat (first | (with_reducible first | exact HB.out | apply qI | apply qD | apply qH | refine qG ?_ GE365.out | refine qG ?_ GE374.out) | exact HB.out)) hb)
          clear HO357
          clear HO360
          clear HO368
          clear HO371
          clear HO377
          clear HO380
          clear BK365
          clear BK374
          clear HB
          have HO357 := n0_
          have HO360 := n1_
          have HO368 := n2_
          have HO371 := n3_
          have HO377 := n4_
          have HO380 := n5_
          have BK365 := n6_
          have BK374 := n7_
          have HB := n8_
          clear n0_ n1_ n2_ n3_ n4_ n5_ n6_ n7_ n8_
          (try clear hb)
          (try clear hb2)
          (try clear hk)
          (try clear hi)
          refine hK.out _ _ ⟨(qB BK374.out 0).trans rfl, (qB BK374.out 1).trans rfl, (qB BK374.out 2).trans rfl, (qB BK374.out 3).trans rfl, (qB BK365.out 0).trans rfl, (qB BK365.out 1).trans rfl, (qB BK365.out 2).trans rfl, (qB BK365.out 3).trans rfl⟩ (fun hHeld => ?_)
          clear hK K
          refine norm_ (a' := ?_) ?_ ?_
          rotate_left
          · show Act.put _ (some 32) _ = _
            simp only [Act.put, List.setIfInBounds_toArray, List.set_cons_zero, List.set_cons_succ, i64_w, i32_w]
            rfl
          refine pure_ (i := 9) (N := some 33) (v := ?_) (a' := ?_) #[true, true, true, true, true, true, true, true, true, true, false, false, false, false, false, false, false, false, false, false, false, false, false, false, false] rfl rfl (zE HT_.out (by kernel_rfl)) (fun _ _ _ h => h) (Or.inl ⟨by rfl, ?_⟩) ?_ ?_
          rotate_left
          · intro w'
            go_simp
            with_reducible rfl
          rotate_left
          · simp only [Act.put, List.setIfInBounds_toArray, List.set_cons_zero, List.set_cons_succ, i64_w, i32_w]
            rfl
          refine pure_ (i := 10) (N := some 34) (v := ?_) (a' := ?_) #[true, true, true, true, true, true, true, true, true, true, true, false, false, false, false, false, false, false, false, false, false, false, false, false, false] rfl rfl (zE HT_.out (by kernel_rfl)) (fun _ _ _ h => h) (Or.inl ⟨by rfl, ?_⟩) ?_ ?_
          rotate_left
          · intro w'
            go_simp
            with_reducible rfl
          rotate_left
          · simp only [Act.put, List.setIfInBounds_toArray, List.set_cons_zero, List.set_cons_succ, i64_w, i32_w]
            rfl
          refine pure_ (i := 11) (N := some 35) (v := ?_) (a' := ?_) #[true, true, true, true, true, true, true, true, true, true, true, true, false, false, false, false, false, false, false, false, false, false, false, false, false] rfl rfl (zE HT_.out (by kernel_rfl)) (fun _ _ _ h => h) (Or.inl ⟨by rfl, ?_⟩) ?_ ?_
          rotate_left
          · intro w'
            go_simp
            with_reducible rfl
          rotate_left
          · simp only [Act.put, List.setIfInBounds_toArray, List.set_cons_zero, List.set_cons_succ, i64_w, i32_w]
            rfl
          refine pure_ (i := 12) (N := some 36) (v := undef) (a' := ?_) #[true, true, true, true, true, true, true, true, true, true, true, true, true, false, false, false, false, false, false, false, false, false, false, false, false] rfl rfl (zE HT_.out (by kernel_rfl)) (fun _ _ _ h => h) (Or.inr ⟨by rfl, rfl⟩) ?_ ?_
          rotate_left
          · simp only [Act.put, List.setIfInBounds_toArray, List.set_cons_zero, List.set_cons_succ, i64_w, i32_w]
            rfl
          refine pure_ (i := 13) (N := some 37) (v := undef) (a' := ?_) #[true, true, true, true, true, true, true, true, true, true, true, true, true, true, false, false, false, false, false, false, false, false, false, false, false] rfl rfl (zE HT_.out (by kernel_rfl)) (fun _ _ _ h => h) (Or.inr ⟨by rfl, rfl⟩) ?_ ?_
          rotate_left
          · simp only [Act.put, List.setIfInBounds_toArray, List.set_cons_zero, List.set_cons_succ, i64_w, i32_w]
            rfl
          refine pure_ (i := 14) (N := some 38) (v := ?_) (a' := ?_) #[true, true, true, true, true, true, true, true, true, true, true, true, true, true, true, false, false, false, false, false, false, false, false, false, false] rfl rfl (zE HT_.out (by kernel_rfl)) (fun _ _ _ h => h) (Or.inl ⟨by rfl, ?_⟩) ?_ ?_
          rotate_left
          · intro w'
            go_simp
            with_reducible rfl
          rotate_left
          · simp only [Act.put, List.setIfInBounds_toArray, List.set_cons_zero, List.set_cons_succ, i64_w, i32_w]
            rfl
          refine pure_ (i := 15) (N := some 39) (v := ?_) (a' := ?_) #[true, true, true, true, true, true, true, true, true, true, true, true, true, true, true, true, false, false, false, false, false, false, false, false, false] rfl rfl (zE HT_.out (by kernel_rfl)) (fun _ _ _ h => h) (Or.inl ⟨by rfl, ?_⟩) ?_ ?_
          rotate_left
          · intro w'
            go_simp
            with_reducible rfl
          rotate_left
          · simp only [Act.put, List.setIfInBounds_toArray, List.set_cons_zero, List.set_cons_succ, i64_w, i32_w]
            rfl
          refine pure_ (i := 16) (N := some 40) (v := undef) (a' := ?_) #[true, true, true, true, true, true, true, true, true, true, true, true, true, true, true, true, true, false, false, false, false, false, false, false, false] rfl rfl (zE HT_.out (by kernel_rfl)) (fun _ _ _ h => h) (Or.inr ⟨by rfl, rfl⟩) ?_ ?_
          rotate_left
          · simp only [Act.put, List.setIfInBounds_toArray, List.set_cons_zero, List.set_cons_succ, i64_w, i32_w]
            rfl
          refine pure_ (i := 17) (N := some 41) (v := undef) (a' := ?_) #[true, true, true, true, true, true, true, true, true, true, true, true, true, true, true, true, true, true, false, false, false, false, false, false, false] rfl rfl (zE HT_.out (by kernel_rfl)) (fun _ _ _ h => h) (Or.inr ⟨by rfl, rfl⟩) ?_ ?_
          rotate_left
          · simp only [Act.put, List.setIfInBounds_toArray, List.set_cons_zero, List.set_cons_succ, i64_w, i32_w]
            rfl
          refine pure_ (i := 18) (N := some 42) (v := ?_) (a' := ?_) #[true, true, true, true, true, true, true, true, true, true, true, true, true, true, true, true, true, true, true, false, false, false, false, false, false] rfl rfl (zE HT_.out (by kernel_rfl)) (fun _ _ _ h => h) (Or.inl ⟨by rfl, ?_⟩) ?_ ?_
          rotate_left
          · intro w'
            go_simp
            with_reducible rfl
          rotate_left
          · simp only [Act.put, List.setIfInBounds_toArray, List.set_cons_zero, List.set_cons_succ, i64_w, i32_w]
            rfl
          refine pure_ (i := 19) (N := some 43) (v := ?_) (a' := ?_) #[true, true, true, true, true, true, true, true, true, true, true, true, true, true, true, true, true, true, true, true, false, false, false, false, false] rfl rfl (zE HT_.out (by kernel_rfl)) (fun _ _ _ h => h) (Or.inl ⟨by rfl, ?_⟩) ?_ ?_
          rotate_left
          · intro w'
            go_simp
            with_reducible rfl
          rotate_left
          · simp only [Act.put, List.setIfInBounds_toArray, List.set_cons_zero, List.set_cons_succ, i64_w, i32_w]
            rfl
          refine pure_ (i := 20) (N := some 44) (v := undef) (a' := ?_) #[true, true, true, true, true, true, true, true, true, true, true, true, true, true, true, true, true, true, true, true, true, false, false, false, false] rfl rfl (zE HT_.out (by kernel_rfl)) (fun _ _ _ h => h) (Or.inr ⟨by rfl, rfl⟩) ?_ ?_
          rotate_left
          · simp only [Act.put, List.setIfInBounds_toArray, List.set_cons_zero, List.set_cons_succ, i64_w, i32_w]
            rfl
          refine pure_ (i := 21) (N := some 45) (v := undef) (a' := ?_) #[true, true, true, true, true, true, true, true, true, true, true, true, true, true, true, true, true, true, true, true, true, true, false, false, false] rfl rfl (zE HT_.out (by kernel_rfl)) (fun _ _ _ h => h) (Or.inr ⟨by rfl, rfl⟩) ?_ ?_
          rotate_left
          · simp only [Act.put, List.setIfInBounds_toArray, List.set_cons_zero, List.set_cons_succ, i64_w, i32_w]
            rfl
          refine pure_ (i := 22) (N := some 46) (v := undef) (a' := ?_) #[true, true, true, true, true, true, true, true, true, true, true, true, true, true, true, true, true, true, true, true, true, true, true, false, false] rfl rfl (zE HT_.out (by kernel_rfl)) (fun _ _ _ h => h) (Or.inr ⟨by rfl, rfl⟩) ?_ ?_
          rotate_left
          · simp only [Act.put, List.setIfInBounds_toArray, List.set_cons_zero, List.set_cons_succ, i64_w, i32_w]
            rfl
          refine pure_ (i := 23) (N := some 47) (v := undef) (a' := ?_) #[true, true, true, true, true, true, true, true, true, true, true, true, true, true, true, true, true, true, true, true, true, true, true, true, false] rfl rfl (zE HT_.out (by kernel_rfl)) (fun _ _ _ h => h) (Or.inr ⟨by rfl, rfl⟩) ?_ ?_
          rotate_left
          · simp only [Act.put, List.setIfInBounds_toArray, List.set_cons_zero, List.set_cons_succ, i64_w, i32_w]
            rfl
          refine pure_ (i := 24) (N := some 48) (v := ?_) (a' := ?_) #[true, true, true, true, true, true, true, true, true, true, true, true, true, true, true, true, true, true, true, true, true, true, true, true, true] rfl rfl (zE HT_.out (by kernel_rfl)) (fun _ _ _ h => h) (Or.inl ⟨by rfl, ?_⟩) ?_ ?_
          rotate_left
          · intro w'
            go_simp
            with_reducible rfl
          rotate_left
          · simp only [Act.put, List.setIfInBounds_toArray, List.set_cons_zero, List.set_cons_succ, i64_w, i32_w]
            rfl
          refine done_ (done_of HT_.out (by kernel_rfl)) ?_
          try go_wp2
          go_meet
          case rel => exact ⟨_, (true), (by first | rfl | (simp; done) | (simp [*]; done)), H', ⟨by first | omega | exact Nat.le_refl _⟩, ⟨by (with_reducible repeat (first | apply Kd.zL | apply Kd.zM | apply Kd.zN)); exact Kd.zX HO357.out (fun _ hk => hk.1)⟩, ⟨by (with_reducible repeat (first | apply Kd.qK | apply Kd.qJ | apply Kd.qL)); exact Kd.qV HO360.out (fun _ hk => hk.1)⟩, ⟨Kd.Q_of_R (by (with_reducible repeat (first | apply Kd.qK | apply Kd.qJ | apply Kd.qL)); exact Kd.qV HO368.out (fun _ hk => hk.1))⟩, ⟨by (with_reducible repeat (first | apply Kd.qK | apply Kd.qJ | apply Kd.qL)); exact Kd.qV HO371.out (fun _ hk => hk.1)⟩, ⟨by (with_reducible repeat (first | refine qC ?_ _ | refine qF ?_ | refine qA ?_ _)); exact BK365.out⟩, ⟨by (with_reducible repeat (first | refine qC ?_ _ | refine qF ?_ | refine qA ?_ _)); exact BK374.out⟩, ⟨by repeat (first | (with_reducible first | exact HB.out | apply qI | apply qD | apply qH | refine qG ?_ GE365.out | refine qG ?_ GE374.out) | exact HB.out)⟩⟩
      · replace c19 := Bool.eq_false_iff.mpr c19
        subst c19
        have H1 : (laws_FnDiskRoom.j0 k t363 true t355 t358 t361 t362 t366 t369 t372 t373) = some true := by rw [if_neg (show ¬ (false = true) by decide)] at H; exact H
        clear H
        have H := H1
        clear H1
        have H' := Aside0.mk H
        clear H
        try go_wp2
        have n0_ : Aside0 (Kd.Q Kd.string 9 ((((w12.setCell ⟨gb374, 0, none⟩ (.slice Ao13 t366.length co13)).setCell ⟨gb374, 1, none⟩ (.slice Ao16 t369.length co16)).setCell ⟨gb374, 2, none⟩ (.int .i64 t372)).setCell ⟨gb374, 3, none⟩ (.int .i64 t373)) w.heap.size (fun k_ => some k_ ≠ (.slice Ao13 t366.length co13 : Value).ownBlock) (.slice Ao8 t355.length co8) t355) := ⟨by (with_reducible repeat (first | apply Kd.zL | apply Kd.zM | apply Kd.zN)); exact Kd.zX (Kd.Q_far (p := ⟨gb374, 3, none⟩) (Kd.Q_far (p := ⟨gb374, 2, none⟩) (Kd.Q_far (p := ⟨gb374, 1, none⟩) (Kd.Q_far (p := ⟨gb374, 0, none⟩) (Kd.xB HO357.out BK374.out (by decide)) (fun _ hk => hk.2) (.slice Ao13 t366.length co13)) (fun _ hk => hk.2) (.slice Ao16 t369.length co16)) (fun _ hk => hk.2) (.int .i64 t372)) (fun _ hk => hk.2) (.int .i64 t373)) (fun _ hk => hk.1.2)⟩
        have n1_ : Aside0 (Kd.R k70 70 ((((w12.setCell ⟨gb374, 0, none⟩ (.slice Ao13 t366.length co13)).setCell ⟨gb374, 1, none⟩ (.slice Ao16 t369.length co16)).setCell ⟨gb374, 2, none⟩ (.int .i64 t372)).setCell ⟨gb374, 3, none⟩ (.int .i64 t373)) w.heap.size (fun k_ => some k_ ≠ (.slice Ao16 t369.length co16 : Value).ownBlock) (.slice Ao10 t358.length co10) t358) := ⟨by (with_reducible repeat (first | apply Kd.qK | apply Kd.qJ | apply Kd.qL)); exact Kd.qV (Kd.R_far (p := ⟨gb374, 3, none⟩) (Kd.R_far (p := ⟨gb374, 2, none⟩) (Kd.R_far (p := ⟨gb374, 1, none⟩) (Kd.R_far (p := ⟨gb374, 0, none⟩) (Kd.qX HO360.out BK374.out (by decide)) (fun _ hk => hk.2) (.slice Ao13 t366.length co13)) (fun _ hk => hk.2) (.slice Ao16 t369.length co16)) (fun _ hk => hk.2) (.int .i64 t372)) (fun _ hk => hk.2) (.int .i64 t373)) (fun _ hk => hk.1.2)⟩
        have n2_ : Aside0 (Kd.R Kd.string 9 ((((w12.setCell ⟨gb374, 0, none⟩ (.slice Ao13 t366.length co13)).setCell ⟨gb374, 1, none⟩ (.slice Ao16 t369.length co16)).setCell ⟨gb374, 2, none⟩ (.int .i64 t372)).setCell ⟨gb374, 3, none⟩ (.int .i64 t373)) w.heap.size (fun k_ => some k_ ≠ (.slice Ao8 t355.length co8 : Value).ownBlock) (.slice Ao13 t366.length co13) t366) := ⟨by (with_reducible repeat (first | apply Kd.qK | apply Kd.qJ | apply Kd.qL)); exact Kd.qV (Kd.R_far (p := ⟨gb374, 3, none⟩) (Kd.R_far (p := ⟨gb374, 2, none⟩) (Kd.R_far (p := ⟨gb374, 1, none⟩) (Kd.R_far (p := ⟨gb374, 0, none⟩) (Kd.qX HO368.out BK374.out (by decide)) (fun _ hk => hk.2) (.slice Ao13 t366.length co13)) (fun _ hk => hk.2) (.slice Ao16 t369.length co16)) (fun _ hk => hk.2) (.int .i64 t372)) (fun _ hk => hk.2) (.int .i64 t373)) (fun _ hk => hk.1.2)⟩
        have n3_ : Aside0 (Kd.R k70 70 ((((w12.setCell ⟨gb374, 0, none⟩ (.slice Ao13 t366.length co13)).setCell ⟨gb374, 1, none⟩ (.slice Ao16 t369.length co16)).setCell ⟨gb374, 2, none⟩ (.int .i64 t372)).setCell ⟨gb374, 3, none⟩ (.int .i64 t373)) w.heap.size (fun k_ => some k_ ≠ (.slice Ao10 t358.length co10 : Value).ownBlock) (.slice Ao16 t369.length co16) t369) := ⟨by (with_reducible repeat (first | apply Kd.qK | apply Kd.qJ | apply Kd.qL)); exact Kd.qV (Kd.R_far (p := ⟨gb374, 3, none⟩) (Kd.R_far (p := ⟨gb374, 2, none⟩) (Kd.R_far (p := ⟨gb374, 1, none⟩) (Kd.R_far (p := ⟨gb374, 0, none⟩) (Kd.qX HO371.out BK374.out (by decide)) (fun _ hk => hk.2) (.slice Ao13 t366.length co13)) (fun _ hk => hk.2) (.slice Ao16 t369.length co16)) (fun _ hk => hk.2) (.int .i64 t372)) (fun _ hk => hk.2) (.int .i64 t373)) (fun _ hk => hk.1.2)⟩
        have n4_ : Aside0 (((((w12.setCell ⟨gb374, 0, none⟩ (.slice Ao13 t366.length co13)).setCell ⟨gb374, 1, none⟩ (.slice Ao16 t369.length co16)).setCell ⟨gb374, 2, none⟩ (.int .i64 t372)).setCell ⟨gb374, 3, none⟩ (.int .i64 t373)).heap[gb365]? = some (.cells #[.slice Ao8 t355.length co8, .slice Ao10 t358.length co10, .int .i64 t361, .int .i64 t362] 26 (0, 0))) := ⟨by (with_reducible repeat (first | refine qC ?_ _ | refine qF ?_ | refine qA ?_ _)); refine qU ?_ NB365_374.out _; (with_reducible repeat (first | refine qC ?_ _ | refine qF ?_ | refine qA ?_ _)); refine qU ?_ NB365_374.out _; (with_reducible repeat (first | refine qC ?_ _ | refine qF ?_ | refine qA ?_ _)); refine qU ?_ NB365_374.out _; (with_reducible repeat (first | refine qC ?_ _ | refine qF ?_ | refine qA ?_ _)); refine qU ?_ NB365_374.out _; (with_reducible repeat (first | refine qC ?_ _ | refine qF ?_ | refine qA ?_ _)); exact BK365.out⟩
        have n5_ : Aside0 (((((w12.setCell ⟨gb374, 0, none⟩ (.slice Ao13 t366.length co13)).setCell ⟨gb374, 1, none⟩ (.slice Ao16 t369.length co16)).setCell ⟨gb374, 2, none⟩ (.int .i64 t372)).setCell ⟨gb374, 3, none⟩ (.int .i64 t373)).heap[gb374]? = some (.cells #[.slice Ao13 t366.length co13, .slice Ao16 t369.length co16, .int .i64 t372, .int .i64 t373] 26 (0, 0))) := ⟨by (with_reducible repeat (first | refine qC ?_ _ | refine qF ?_ | refine qA ?_ _)); refine qR (cs := #[.slice Ao13 t366.length co13, .slice Ao16 t369.length co16, .int .i64 t372, .int .i64 0]) ?_ 3 _ rfl; (with_reducible repeat (first | refine qC ?_ _ | refine qF ?_ | refine qA ?_ _)); refine qR (cs := #[.slice Ao13 t366.length co13, .slice Ao16 t369.length co16, .int .i64 0, .int .i64 0]) ?_ 2 _ rfl; (with_reducible repeat (first | refine qC ?_ _ | refine qF ?_ | refine qA ?_ _)); refine qR (cs := #[.slice Ao13 t366.length co13, .slice none 0 0, .int .i64 0, .int .i64 0]) ?_ 1 _ rfl; (with_reducible repeat (first | refine qC ?_ _ | refine qF ?_ | refine qA ?_ _)); refine qR (cs := #[.slice none 0 0, .slice none 0 0, .int .i64 0, .int .i64 0]) ?_ 0 _ rfl; (with_reducible repeat (first | refine qC ?_ _ | refine qF ?_ | refine qA ?_ _)); exact BK374.out⟩
        have n6_ : Aside0 (Below w.heap.size w ((((w12.setCell ⟨gb374, 0, none⟩ (.slice Ao13 t366.length co13)).setCell ⟨gb374, 1, none⟩ (.slice Ao16 t369.length co16)).setCell ⟨gb374, 2, none⟩ (.int .i64 t372)).setCell ⟨gb374, 3, none⟩ (.int .i64 t373))) := ⟨by repeat (first | (with_reducible first | exact HB.out | apply qI | apply qD | apply qH | refine qG ?_ GE365.out | refine qG ?_ GE374.out) | exact HB.out)⟩
        (try clear HO357)
        (try clear HO360)
        (try clear HO368)
        (try clear HO371)
        (try clear BK365)
        (try clear BK374)
        (try clear HB)
        generalize ((((w12.setCell ⟨gb374, 0, none⟩ (.slice Ao13 t366.length co13)).setCell ⟨gb374, 1, none⟩ (.slice Ao16 t369.length co16)).setCell ⟨gb374, 2, none⟩ (.int .i64 t372)).setCell ⟨gb374, 3, none⟩ (.int .i64 t373)) = w52 at n0_ n1_ n2_ n3_ n4_ n5_ n6_ ⊢
        have HO357 := n0_
        have HO360 := n1_
        have HO368 := n2_
        have HO371 := n3_
        have BK365 := n4_
        have BK374 := n5_
        have HB := n6_
        clear n0_ n1_ n2_ n3_ n4_ n5_ n6_
        have n0_ := Aside0.mk (Kd.zN HO357.out)
        have n1_ := Aside0.mk (Kd.qL HO360.out)
        have n2_ := Aside0.mk (Kd.qL HO368.out)
        have n3_ := Aside0.mk (Kd.qL HO371.out)
        have n4_ := Aside0.mk (qF BK365.out)
        have n5_ := Aside0.mk (qF BK374.out)
        have n6_ := Aside0.mk (qH HB.out)
        clear HO357
        clear HO360
        clear HO368
        clear HO371
        clear BK365
        clear BK374
        clear HB
        have HO357 := n0_
        have HO360 := n1_
        have HO368 := n2_
        have HO371 := n3_
        have BK365 := n4_
        have BK374 := n5_
        have HB := n6_
        clear n0_ n1_ n2_ n3_ n4_ n5_ n6_
        refine start_ (n := 25) (S := fun w' => w'.cell? ⟨gb374, 0, none⟩ = some (.slice Ao13 t366.length co13) ∧ w'.cell? ⟨gb374, 1, none⟩ = some (.slice Ao16 t369.length co16) ∧ w'.cell? ⟨gb374, 2, none⟩ = some (.int .i64 t372) ∧ w'.cell? ⟨gb374, 3, none⟩ = some (.int .i64 t373) ∧ w'.cell? ⟨gb365, 0, none⟩ = some (.slice Ao8 t355.length co8) ∧ w'.cell? ⟨gb365, 1, none⟩ = some (.slice Ao10 t358.length co10) ∧ w'.cell? ⟨gb365, 2, none⟩ = some (.int .i64 t361) ∧ w'.cell? ⟨gb365, 3, none⟩ = some (.int .i64 t362)) (ds := []) #[false, false, false, false, false, false, false, false, false, false, false, false, false, false, false, false, false, false, false, false, false, false, false, false, false] (by kernel_rfl) rfl rfl ⟨(qB BK374.out 0).trans rfl, (qB BK374.out 1).trans rfl, (qB BK374.out 2).trans rfl, (qB BK374.out 3).trans rfl, (qB BK365.out 0).trans rfl, (qB BK365.out 1).trans rfl, (qB BK365.out 2).trans rfl, (qB BK365.out 3).trans rfl⟩ (fun hHeld => ?_); refine xH laws_FnDiskRoom.tab5 laws_FnDiskRoom.bits5 (fun HT_ HW_ => ?_)
        generalize w52.drew = w53 at HO357 HO360 HO368 HO371 BK365 BK374 HB hHeld ⊢
        refine pure_ (i := 2) (N := some 26) (v := ?_) (a' := ?_) #[false, false, true, false, false, false, false, false, false, false, false, false, false, false, false, false, false, false, false, false, false, false, false, false, false] rfl rfl (zE HT_.out (by kernel_rfl)) (fun _ _ _ h => h) (Or.inl ⟨by rfl, ?_⟩) ?_ ?_
        rotate_left
        · intro w'
          go_simp
          with_reducible rfl
        rotate_left
        · simp only [Act.put, List.setIfInBounds_toArray, List.set_cons_zero, List.set_cons_succ, i64_w, i32_w]
          rfl
        refine take_ (i := 0) (N := some 24) (v := ?_) (a' := ?_) #[true, false, true, false, false, false, false, false, false, false, false, false, false, false, false, false, false, false, false, false, false, false, false, false, false] rfl rfl (zU HT_.out HW_.out (by kernel_rfl)) (fun _ _ _ h => h) (Or.inl ⟨by rfl, ?_⟩) hHeld ?_ ?_
        rotate_left
        · rintro w' ⟨s0, s1, s2, s3, s4, s5, s6, s7⟩
          go_simp
          with_reducible rfl
        rotate_left
        · simp only [Act.put, List.setIfInBounds_toArray, List.set_cons_zero, List.set_cons_succ, i64_w, i32_w]
          rfl
        refine take_ (i := 1) (N := some 25) (v := ?_) (a' := ?_) #[true, true, true, false, false, false, false, false, false, false, false, false, false, false, false, false, false, false, false, false, false, false, false, false, false] rfl rfl (zU HT_.out HW_.out (by kernel_rfl)) (fun _ _ _ h => h) (Or.inl ⟨by rfl, ?_⟩) hHeld ?_ ?_
        rotate_left
        · rintro w' ⟨s0, s1, s2, s3, s4, s5, s6, s7⟩
          go_simp
          with_reducible rfl
        rotate_left
        · simp only [Act.put, List.setIfInBounds_toArray, List.set_cons_zero, List.set_cons_succ, i64_w, i32_w]
          rfl
        refine one_ (i := 3) (N := some 27) #[true, true, true, true, false, false, false, false, false, false, false, false, false, false, false, false, false, false, false, false, false, false, false, false, false] rfl rfl (zW HT_.out (by kernel_rfl)) (by decide) (fun K hK => ?_)
        refine goes_ Try.func14 (by kernel_rfl) rfl #[.agg #[.slice Ao8 t355.length co8, .slice Ao10 t358.length co10, .int .i64 t361, .int .i64 t362], .int .i64 t363, .int .i64 (-1)] (by rfl) rfl rfl (by (try simp only [List.map_toArray, List.map_cons, List.map_nil]); first | done | rfl | (simp only [List.length_drop, List.length_take]; rfl)) ?_
        with_reducible refine (spec_DiskSet.calls k _ _ t355 _ _ t358 t361 t362 t363 (-1) t375 t378 t381 t382 _ ?side1 ?side2 ?side3 ?side4 A17.out).mono ?_
        (case side1 => repeat (first | exact (Kd.zQ HO357.out).2.2 | (with_reducible refine Kd.zC ?_ _) | (with_reducible refine Kd.zD ?_ _) | (with_reducible refine Kd.zH ?_)))
        (case side2 => exact (Kd.zQ HO357.out).2.1)
        (case side3 => repeat (first | exact (Kd.qW HO360.out).2.2 | (with_reducible refine Kd.zC ?_ _) | (with_reducible refine Kd.zD ?_ _) | (with_reducible refine Kd.zH ?_)))
        (case side4 => exact (Kd.qW HO360.out).2.1)
        rintro e w54 ⟨v376, v379, rfl, ho0, ho1, hb⟩
        refine ⟨_, rfl, ?_⟩
        have n0_ := Aside0.mk (Kd.xF (by (with_reducible repeat (first | apply Kd.zL | apply Kd.zM | apply Kd.zN)); exact HO357.out) (Kd.zS ho0) hb)
        have n1_ := Aside0.mk (Kd.zR (by (with_reducible repeat (first | apply Kd.qK | apply Kd.qJ | apply Kd.qL)); exact HO360.out) (Kd.zS ho1) hb)
        have n2_ := Aside0.mk (Kd.zR (by (with_reducible repeat (first | apply Kd.qK | apply Kd.qJ | apply Kd.qL)); exact HO368.out) (Kd.zS ho0) hb)
        have n3_ := Aside0.mk (Kd.zR (by (with_reducible repeat (first | apply Kd.qK | apply Kd.qJ | apply Kd.qL)); exact HO371.out) (Kd.zS ho1) hb)
        have n4_ := Aside0.mk (Kd.zJ (Kd.zT (Kd.zT ho0 (Kd.Q_lt (by (with_reducible repeat (first | apply Kd.zL | apply Kd.zM | apply Kd.zN)); exact HO357.out))) (Kd.R_lt (by (with_reducible repeat (first | apply Kd.qK | apply Kd.qJ | apply Kd.qL)); exact HO368.out))) (qN (by repeat (first | (with_reducible first | exact HB.out | apply qI | apply qD | apply qH | refine qG ?_ GE365.out | refine qG ?_ GE374.out) | exact HB.out))))
        have n5_ := Aside0.mk (Kd.zJ (Kd.zT (Kd.zT ho1 (Kd.R_lt (by (with_reducible repeat (first | apply Kd.qK | apply Kd.qJ | apply Kd.qL)); exact HO360.out))) (Kd.R_lt (by (with_reducible repeat (first | apply Kd.qK | apply Kd.qJ | apply Kd.qL)); exact HO371.out))) (qN (by repeat (first | (with_reducible first | exact HB.out | apply qI | apply qD | apply qH | refine qG ?_ GE365.out | refine qG ?_ GE374.out) | exact HB.out))))
        have n6_ := Aside0.mk (qM (g := gb365) (o := .cells #[.slice Ao8 t355.length co8, .slice Ao10 t358.length co10, .int .i64 t361, .int .i64 t362] 26 (0, 0)) (by (with_reducible repeat (first | refine qC ?_ _ | refine qF ?_ | refine qA ?_ _)); exact BK365.out) hb)
        have n7_ := Aside0.mk (qM (g := gb374) (o := .cells #[.slice Ao13 t366.length co13, .slice Ao16 t369.length co16, .int .i64 t372, .int .i64 t373] 26 (0, 0)) (by (with_reducible repeat (first | refine qC ?_ _ | refine qF ?_ | refine qA ?_ _)); exact BK374.out) hb)
        have n8_ := Aside0.mk (qO (by repeat (first | (with_reducible first | exact HB.out | apply qI | apply qD | apply qH | refine qG ?_ GE365.out | refine qG ?_ GE374.out) | exact HB.out)) hb)
        clear HO357
        clear HO360
        clear HO368
        clear HO371
        clear BK365
        clear BK374
        clear HB
        have HO357 := n0_
        have HO360 := n1_
        have HO368 := n2_
        have HO371 := n3_
        have HO377 := n4_
        have HO380 := n5_
        have BK365 := n6_
        have BK374 := n7_
        have HB := n8_
        clear n0_ n1_ n2_ n3_ n4_ n5_ n6_ n7_ n8_
        (try clear hb)
        (try clear hb2)
        (try clear hk)
        (try clear hi)
        (try clear ho0)
        (try clear ho1)
        obtain ⟨Ao55, co55, eo55⟩ := Kd.zF HO377.out
        (first | subst eo55 | (injection eo55 with f1_ f2_ f3_; have f4_ := f1_.symm; have f5_ := f3_.symm; clear f1_ f2_ f3_; subst f4_; subst f5_))
        obtain ⟨Ao56, co56, eo56⟩ := Kd.zF HO380.out
        (first | subst eo56 | (injection eo56 with f1_ f2_ f3_; have f4_ := f1_.symm; have f5_ := f3_.symm; clear f1_ f2_ f3_; subst f4_; subst f5_))
        refine hK.out _ _ ⟨(qB BK374.out 0).trans rfl, (qB BK374.out 1).trans rfl, (qB BK374.out 2).trans rfl, (qB BK374.out 3).trans rfl, (qB BK365.out 0).trans rfl, (qB BK365.out 1).trans rfl, (qB BK365.out 2).trans rfl, (qB BK365.out 3).trans rfl⟩ (fun hHeld => ?_)
        clear hK K
        refine norm_ (a' := ?_) ?_ ?_
        rotate_left
        · show Act.put _ (some 27) _ = _
          simp only [Act.put, List.setIfInBounds_toArray, List.set_cons_zero, List.set_cons_succ, i64_w, i32_w]
          rfl
        refine one_ (i := 4) (N := some 28) #[true, true, true, true, true, false, false, false, false, false, false, false, false, false, false, false, false, false, false, false, false, false, false, false, false] rfl rfl (zW HT_.out (by kernel_rfl)) (by decide) (fun K hK => ?_)
        refine goes_ Try.func13 (by kernel_rfl) rfl #[.agg #[.slice Ao13 t366.length co13, .slice Ao16 t369.length co16, .int .i64 t372, .int .i64 t373], .agg #[.slice Ao55 t375.length co55, .slice Ao56 t378.length co56, .int .i64 t381, .int .i64 t382]] (by rfl) rfl rfl (by (try simp only [List.map_toArray, List.map_cons, List.map_nil]); first | done | rfl | (simp only [List.length_drop, List.length_take]; rfl)) ?_
        with_reducible refine (laws_jtDisk.calls k _ _ t366 _ _ t369 t372 t373 _ _ t375 _ _ t378 t381 t382 false _ ?side1 ?side2 ?side3 ?side4 ?side5 ?side6 ?side7 ?side8 A18.out).mono ?_
        (case side1 => repeat (first | exact (Kd.qW HO368.out).2.2 | (with_reducible refine Kd.zC ?_ _) | (with_reducible refine Kd.zD ?_ _) | (with_reducible refine Kd.zH ?_)))
        (case side2 => exact (Kd.qW HO368.out).2.1)
        (case side3 => repeat (first | exact (Kd.qW HO371.out).2.2 | (with_reducible refine Kd.zC ?_ _) | (with_reducible refine Kd.zD ?_ _) | (with_reducible refine Kd.zH ?_)))
        (case side4 => exact (Kd.qW HO371.out).2.1)
        (case side5 => repeat (first | exact (Kd.qW HO377.out).2.2 | (with_reducible refine Kd.zC ?_ _) | (with_reducible refine Kd.zD ?_ _) | (with_reducible refine Kd.zH ?_)))
        (case side6 => exact (Kd.qW HO377.out).2.1)
        (case side7 => repeat (first | exact (Kd.qW HO380.out).2.2 | (with_reducible refine Kd.zC ?_ _) | (with_reducible refine Kd.zD ?_ _) | (with_reducible refine Kd.zH ?_)))
        (case side8 => exact (Kd.qW HO380.out).2.1)
        rintro e w57 ⟨rfl, hb⟩
        refine ⟨_, rfl, ?_⟩
        have n0_ := Aside0.mk (Kd.zZ (by (with_reducible repeat (first | apply Kd.zL | apply Kd.zM | apply Kd.zN)); exact HO357.out) hb)
        have n1_ := Aside0.mk (Kd.zA (by (with_reducible repeat (first | apply Kd.qK | apply Kd.qJ | apply Kd.qL)); exact HO360.out) hb)
        have n2_ := Aside0.mk (Kd.zA (by (with_reducible repeat (first | apply Kd.qK | apply Kd.qJ | apply Kd.qL)); exact HO368.out) hb)
        have n3_ := Aside0.mk (Kd.zA (by (with_reducible repeat (first | apply Kd.qK | apply Kd.qJ | apply Kd.qL)); exact HO371.out) hb)
        have n4_ := Aside0.mk (Kd.zA (by (with_reducible repeat (first | apply Kd.qK | apply Kd.qJ | apply Kd.qL)); exact HO377.out) hb)
        have n5_ := Aside0.mk (Kd.zA (by (with_reducible repeat (first | apply Kd.qK | apply Kd.qJ | apply Kd.qL)); exact HO380.out) hb)
        have n6_ := Aside0.mk (qM (g := gb365) (o := .cells #[.slice Ao8 t355.length co8, .slice Ao10 t358.length co10, .int .i64 t361, .int .i64 t362] 26 (0, 0)) (by (with_reducible repeat (first | refine qC ?_ _ | refine qF ?_ | refine qA ?_ _)); exact BK365.out) hb)
        have n7_ := Aside0.mk (qM (g := gb374) (o := .cells #[.slice Ao13 t366.length co13, .slice Ao16 t369.length co16, .int .i64 t372, .int .i64 t373] 26 (0, 0)) (by (with_reducible repeat (first | refine qC ?_ _ | refine qF ?_ | refine qA ?_ _)); exact BK374.out) hb)
        have n8_ := Aside0.mk (qO (by repeat (first | (with_reducible first | exact HB.out | apply qI | apply qD | apply qH | refine qG ?_ GE365.out | refine qG ?_ GE374.out) | exact HB.out)) hb)
        clear HO357
        clear HO360
        clear HO368
        clear HO371
        clear HO377
        clear HO380
        clear BK365
        clear BK374
        clear HB
        have HO357 := n0_
        have HO360 := n1_
        have HO368 := n2_
        have HO371 := n3_
        have HO377 := n4_
        have HO380 := n5_
        have BK365 := n6_
        have BK374 := n7_
        have HB := n8_
        clear n0_ n1_ n2_ n3_ n4_ n5_ n6_ n7_ n8_
        (try clear hb)
        (try clear hb2)
        (try clear hk)
        (try clear hi)
        refine hK.out _ _ ⟨(qB BK374.out 0).trans rfl, (qB BK374.out 1).trans rfl, (qB BK374.out 2).trans rfl, (qB BK374.out 3).trans rfl, (qB BK365.out 0).trans rfl, (qB BK365.out 1).trans rfl, (qB BK365.out 2).trans rfl, (qB BK365.out 3).trans rfl⟩ (fun hHeld => ?_)
        clear hK K
        refine norm_ (a' := ?_) ?_ ?_
        rotate_left
        · show Act.put _ (some 28) _ = _
          simp only [Act.put, List.setIfInBounds_toArray, List.set_cons_zero, List.set_cons_succ, i64_w, i32_w]
          rfl
        refine pure_ (i := 5) (N := some 29) (v := ?_) (a' := ?_) #[true, true, true, true, true, true, false, false, false, false, false, false, false, false, false, false, false, false, false, false, false, false, false, false, false] rfl rfl (zE HT_.out (by kernel_rfl)) (fun _ _ _ h => h) (Or.inl ⟨by rfl, ?_⟩) ?_ ?_
        rotate_left
        · intro w'
          go_simp
          with_reducible rfl
        rotate_left
        · simp only [Act.put, List.setIfInBounds_toArray, List.set_cons_zero, List.set_cons_succ, i64_w, i32_w]
          rfl
        refine pure_ (i := 6) (N := some 30) (v := ?_) (a' := ?_) #[true, true, true, true, true, true, true, false, false, false, false, false, false, false, false, false, false, false, false, false, false, false, false, false, false] rfl rfl (zE HT_.out (by kernel_rfl)) (fun _ _ _ h => h) (Or.inl ⟨by rfl, ?_⟩) ?_ ?_
        rotate_left
        · intro w'
          go_simp
          with_reducible rfl
        rotate_left
        · simp only [Act.put, List.setIfInBounds_toArray, List.set_cons_zero, List.set_cons_succ, i64_w, i32_w]
          rfl
        refine pure_ (i := 7) (N := some 31) (v := undef) (a' := ?_) #[true, true, true, true, true, true, true, true, false, false, false, false, false, false, false, false, false, false, false, false, false, false, false, false, false] rfl rfl (zE HT_.out (by kernel_rfl)) (fun _ _ _ h => h) (Or.inr ⟨by rfl, rfl⟩) ?_ ?_
        rotate_left
        · simp only [Act.put, List.setIfInBounds_toArray, List.set_cons_zero, List.set_cons_succ, i64_w, i32_w]
          rfl
        refine pure_ (i := 8) (N := some 32) (v := undef) (a' := ?_) #[true, true, true, true, true, true, true, true, true, false, false, false, false, false, false, false, false, false, false, false, false, false, false, false, false] rfl rfl (zE HT_.out (by kernel_rfl)) (fun _ _ _ h => h) (Or.inr ⟨by rfl, rfl⟩) ?_ ?_
        rotate_left
        · simp only [Act.put, List.setIfInBounds_toArray, List.set_cons_zero, List.set_cons_succ, i64_w, i32_w]
          rfl
        refine pure_ (i := 9) (N := some 33) (v := undef) (a' := ?_) #[true, true, true, true, true, true, true, true, true, true, false, false, false, false, false, false, false, false, false, false, false, false, false, false, false] rfl rfl (zE HT_.out (by kernel_rfl)) (fun _ _ _ h => h) (Or.inr ⟨by rfl, rfl⟩) ?_ ?_
        rotate_left
        · simp only [Act.put, List.setIfInBounds_toArray, List.set_cons_zero, List.set_cons_succ, i64_w, i32_w]
          rfl
        refine pure_ (i := 10) (N := some 34) (v := ?_) (a' := ?_) #[true, true, true, true, true, true, true, true, true, true, true, false, false, false, false, false, false, false, false, false, false, false, false, false, false] rfl rfl (zE HT_.out (by kernel_rfl)) (fun _ _ _ h => h) (Or.inl ⟨by rfl, ?_⟩) ?_ ?_
        rotate_left
        · intro w'
          go_simp
          with_reducible rfl
        rotate_left
        · simp only [Act.put, List.setIfInBounds_toArray, List.set_cons_zero, List.set_cons_succ, i64_w, i32_w]
          rfl
        refine pure_ (i := 11) (N := some 35) (v := ?_) (a' := ?_) #[true, true, true, true, true, true, true, true, true, true, true, true, false, false, false, false, false, false, false, false, false, false, false, false, false] rfl rfl (zE HT_.out (by kernel_rfl)) (fun _ _ _ h => h) (Or.inl ⟨by rfl, ?_⟩) ?_ ?_
        rotate_left
        · intro w'
          go_simp
          with_reducible rfl
        rotate_left
        · simp only [Act.put, List.setIfInBounds_toArray, List.set_cons_zero, List.set_cons_succ, i64_w, i32_w]
          rfl
        refine pure_ (i := 12) (N := some 36) (v := undef) (a' := ?_) #[true, true, true, true, true, true, true, true, true, true, true, true, true, false, false, false, false, false, false, false, false, false, false, false, false] rfl rfl (zE HT_.out (by kernel_rfl)) (fun _ _ _ h => h) (Or.inr ⟨by rfl, rfl⟩) ?_ ?_
        rotate_left
        · simp only [Act.put, List.setIfInBounds_toArray, List.set_cons_zero, List.set_cons_succ, i64_w, i32_w]
          rfl
        refine pure_ (i := 13) (N := some 37) (v := undef) (a' := ?_) #[true, true, true, true, true, true, true, true, true, true, true, true, true, true, false, false, false, false, false, false, false, false, false, false, false] rfl rfl (zE HT_.out (by kernel_rfl)) (fun _ _ _ h => h) (Or.inr ⟨by rfl, rfl⟩) ?_ ?_
        rotate_left
        · simp only [Act.put, List.setIfInBounds_toArray, List.set_cons_zero, List.set_cons_succ, i64_w, i32_w]
          rfl
        refine pure_ (i := 14) (N := some 38) (v := ?_) (a' := ?_) #[true, true, true, true, true, true, true, true, true, true, true, true, true, true, true, false, false, false, false, false, false, false, false, false, false] rfl rfl (zE HT_.out (by kernel_rfl)) (fun _ _ _ h => h) (Or.inl ⟨by rfl, ?_⟩) ?_ ?_
        rotate_left
        · intro w'
          go_simp
          with_reducible rfl
        rotate_left
        · simp only [Act.put, List.setIfInBounds_toArray, List.set_cons_zero, List.set_cons_succ, i64_w, i32_w]
          rfl
        refine pure_ (i := 15) (N := some 39) (v := ?_) (a' := ?_) #[true, true, true, true, true, true, true, true, true, true, true, true, true, true, true, true, false, false, false, false, false, false, false, false, false] rfl rfl (zE HT_.out (by kernel_rfl)) (fun _ _ _ h => h) (Or.inl ⟨by rfl, ?_⟩) ?_ ?_
        rotate_left
        · intro w'
          go_simp
          with_reducible rfl
        rotate_left
        · simp only [Act.put, List.setIfInBounds_toArray, List.set_cons_zero, List.set_cons_succ, i64_w, i32_w]
          rfl
        refine pure_ (i := 16) (N := some 40) (v := undef) (a' := ?_) #[true, true, true, true, true, true, true, true, true, true, true, true, true, true, true, true, true, false, false, false, false, false, false, false, false] rfl rfl (zE HT_.out (by kernel_rfl)) (fun _ _ _ h => h) (Or.inr ⟨by rfl, rfl⟩) ?_ ?_
        rotate_left
        · simp only [Act.put, List.setIfInBounds_toArray, List.set_cons_zero, List.set_cons_succ, i64_w, i32_w]
          rfl
        refine pure_ (i := 17) (N := some 41) (v := undef) (a' := ?_) #[true, true, true, true, true, true, true, true, true, true, true, true, true, true, true, true, true, true, false, false, false, false, false, false, false] rfl rfl (zE HT_.out (by kernel_rfl)) (fun _ _ _ h => h) (Or.inr ⟨by rfl, rfl⟩) ?_ ?_
        rotate_left
        · simp only [Act.put, List.setIfInBounds_toArray, List.set_cons_zero, List.set_cons_succ, i64_w, i32_w]
          rfl
        refine pure_ (i := 18) (N := some 42) (v := ?_) (a' := ?_) #[true, true, true, true, true, true, true, true, true, true, true, true, true, true, true, true, true, true, true, false, false, false, false, false, false] rfl rfl (zE HT_.out (by kernel_rfl)) (fun _ _ _ h => h) (Or.inl ⟨by rfl, ?_⟩) ?_ ?_
        rotate_left
        · intro w'
          go_simp
          with_reducible rfl
        rotate_left
        · simp only [Act.put, List.setIfInBounds_toArray, List.set_cons_zero, List.set_cons_succ, i64_w, i32_w]
          rfl
        refine pure_ (i := 19) (N := some 43) (v := ?_) (a' := ?_) #[true, true, true, true, true, true, true, true, true, true, true, true, true, true, true, true, true, true, true, true, false, false, false, false, false] rfl rfl (zE HT_.out (by kernel_rfl)) (fun _ _ _ h => h) (Or.inl ⟨by rfl, ?_⟩) ?_ ?_
        rotate_left
        · intro w'
          go_simp
          with_reducible rfl
        rotate_left
        · simp only [Act.put, List.setIfInBounds_toArray, List.set_cons_zero, List.set_cons_succ, i64_w, i32_w]
          rfl
        refine pure_ (i := 20) (N := some 44) (v := undef) (a' := ?_) #[true, true, true, true, true, true, true, true, true, true, true, true, true, true, true, true, true, true, true, true, true, false, false, false, false] rfl rfl (zE HT_.out (by kernel_rfl)) (fun _ _ _ h => h) (Or.inr ⟨by rfl, rfl⟩) ?_ ?_
        rotate_left
        · simp only [Act.put, List.setIfInBounds_toArray, List.set_cons_zero, List.set_cons_succ, i64_w, i32_w]
          rfl
        refine pure_ (i := 21) (N := some 45) (v := undef) (a' := ?_) #[true, true, true, true, true, true, true, true, true, true, true, true, true, true, true, true, true, true, true, true, true, true, false, false, false] rfl rfl (zE HT_.out (by kernel_rfl)) (fun _ _ _ h => h) (Or.inr ⟨by rfl, rfl⟩) ?_ ?_
        rotate_left
        · simp only [Act.put, List.setIfInBounds_toArray, List.set_cons_zero, List.set_cons_succ, i64_w, i32_w]
          rfl
        refine pure_ (i := 22) (N := some 46) (v := undef) (a' := ?_) #[true, true, true, true, true, true, true, true, true, true, true, true, true, true, true, true, true, true, true, true, true, true, true, false, false] rfl rfl (zE HT_.out (by kernel_rfl)) (fun _ _ _ h => h) (Or.inr ⟨by rfl, rfl⟩) ?_ ?_
        rotate_left
        · simp only [Act.put, List.setIfInBounds_toArray, List.set_cons_zero, List.set_cons_succ, i64_w, i32_w]
          rfl
        refine pure_ (i := 23) (N := some 47) (v := undef) (a' := ?_) #[true, true, true, true, true, true, true, true, true, true, true, true, true, true, true, true, true, true, true, true, true, true, true, true, false] rfl rfl (zE HT_.out (by kernel_rfl)) (fun _ _ _ h => h) (Or.inr ⟨by rfl, rfl⟩) ?_ ?_
        rotate_left
        · simp only [Act.put, List.setIfInBounds_toArray, List.set_cons_zero, List.set_cons_succ, i64_w, i32_w]
          rfl
        refine pure_ (i := 24) (N := some 48) (v := ?_) (a' := ?_) #[true, true, true, true, true, true, true, true, true, true, true, true, true, true, true, true, true, true, true, true, true, true, true, true, true] rfl rfl (zE HT_.out (by kernel_rfl)) (fun _ _ _ h => h) (Or.inl ⟨by rfl, ?_⟩) ?_ ?_
        rotate_left
        · intro w'
          go_simp
          with_reducible rfl
        rotate_left
        · simp only [Act.put, List.setIfInBounds_toArray, List.set_cons_zero, List.set_cons_succ, i64_w, i32_w]
          rfl
        refine done_ (done_of HT_.out (by kernel_rfl)) ?_
        try go_wp2
        go_meet
        case rel => exact ⟨_, (true), (by first | rfl | (simp; done) | (simp [*]; done)), H', ⟨by first | omega | exact Nat.le_refl _⟩, ⟨by (with_reducible repeat (first | apply Kd.zL | apply Kd.zM | apply Kd.zN)); exact Kd.zX HO357.out (fun _ hk => hk.1)⟩, ⟨by (with_reducible repeat (first | apply Kd.qK | apply Kd.qJ | apply Kd.qL)); exact Kd.qV HO360.out (fun _ hk => hk.1)⟩, ⟨Kd.Q_of_R (by (with_reducible repeat (first | apply Kd.qK | apply Kd.qJ | apply Kd.qL)); exact Kd.qV HO368.out (fun _ hk => hk.1))⟩, ⟨by (with_reducible repeat (first | apply Kd.qK | apply Kd.qJ | apply Kd.qL)); exact Kd.qV HO371.out (fun _ hk => hk.1)⟩, ⟨by (with_reducible repeat (first | refine qC ?_ _ | refine qF ?_ | refine qA ?_ _)); exact BK365.out⟩, ⟨by (with_reducible repeat (first | refine qC ?_ _ | refine qF ?_ | refine qA ?_ _)); exact BK374.out⟩, ⟨by repeat (first | (with_reducible first | exact HB.out | apply qI | apply qD | apply qH | refine qG ?_ GE365.out | refine qG ?_ GE374.out) | exact HB.out)⟩⟩
    case rest =>
      clear HC5
      try clear c1
      try clear p2
      try clear c13
      try clear c14
      try clear c15
      try clear c19
      obtain ⟨kq, x48_4, rfl, HA, HJ4, HO_366000, HO_366001, HO_375000, HO_375001, BK365, BK374, HB⟩ := hcut
      cases kq with
      | zero => exact absurd HA.out (by simp [laws_FnDiskRoom.j0])
      | succ kj4 =>
        have H := HA.out
        clear HA
        simp only [laws_FnDiskRoom.j0] at H
        by_cases c58 : x48_4 = true
        · subst c58
          have H1 : ((spec_DiskSet.f kj4 t355 t358 t361 t362 t363 (-1)).bind fun bt385 => ((laws_jtDisk.f kj4 t366 t369 t372 t373 bt385.1 bt385.2.1 bt385.2.2.1 bt385.2.2.2).bind fun t393 => (some t393))) = some true := by rw [if_pos rfl] at H; exact H
          clear H
          have H := H1
          clear H1
          replace H := Option.bind_eq_some_iff.mp H
          obtain ⟨⟨t385, t388, t391, t392⟩, A590, H⟩ := H
          replace H : ((laws_jtDisk.f kj4 t366 t369 t372 t373 t385 t388 t391 t392).bind fun t393 => (some t393)) = some true := H
          have A59 := Aside0.mk A590
          clear A590
          replace H := Option.bind_eq_some_iff.mp H
          obtain ⟨t393, A600, H⟩ := H
          replace H : (some t393) = some true := H
          have A60 := Aside0.mk A600
          clear A600
          have HT_ : t393 = true := Option.some.inj H
          clear H
          try go_wp2
          have n0_ := Aside0.mk (Kd.zN HO_366000.out)
          have n1_ := Aside0.mk (Kd.qL HO_366001.out)
          have n2_ := Aside0.mk (Kd.zN HO_375000.out)
          have n3_ := Aside0.mk (Kd.qL HO_375001.out)
          have n4_ := Aside0.mk (qF BK365.out)
          have n5_ := Aside0.mk (qF BK374.out)
          have n6_ := Aside0.mk (qH HB.out)
          clear HO_366000
          clear HO_366001
          clear HO_375000
          clear HO_375001
          clear BK365
          clear BK374
          clear HB
          have HO_366000 := n0_
          have HO_366001 := n1_
          have HO_375000 := n2_
          have HO_375001 := n3_
          have BK365 := n4_
          have BK374 := n5_
          have HB := n6_
          clear n0_ n1_ n2_ n3_ n4_ n5_ n6_
          refine start_ (n := 6) (S := fun w' => w'.cell? ⟨gb374, 0, none⟩ = some (.slice Ao13 t366.length co13) ∧ w'.cell? ⟨gb374, 1, none⟩ = some (.slice Ao16 t369.length co16) ∧ w'.cell? ⟨gb374, 2, none⟩ = some (.int .i64 t372) ∧ w'.cell? ⟨gb374, 3, none⟩ = some (.int .i64 t373) ∧ w'.cell? ⟨gb365, 0, none⟩ = some (.slice Ao8 t355.length co8) ∧ w'.cell? ⟨gb365, 1, none⟩ = some (.slice Ao10 t358.length co10) ∧ w'.cell? ⟨gb365, 2, none⟩ = some (.int .i64 t361) ∧ w'.cell? ⟨gb365, 3, none⟩ = some (.int .i64 t362)) (ds := []) #[false, false, false, false, false, false] (by kernel_rfl) rfl rfl ⟨(qB BK374.out 0).trans rfl, (qB BK374.out 1).trans rfl, (qB BK374.out 2).trans rfl, (qB BK374.out 3).trans rfl, (qB BK365.out 0).trans rfl, (qB BK365.out 1).trans rfl, (qB BK365.out 2).trans rfl, (qB BK365.out 3).trans rfl⟩ (fun hHeld => ?_)
          generalize wc.drew = w61 at HO_366000 HO_366001 HO_375000 HO_375001 BK365 BK374 HB hHeld ⊢
          refine pure_ (i := 2) (N := some 51) (v := ?_) (a' := ?_) #[false, false, true, false, false, false] rfl rfl (by kernel_rfl) (fun _ _ _ h => h) (Or.inl ⟨by rfl, ?_⟩) ?_ ?_
          rotate_left
          · intro w'
            go_simp
            with_reducible rfl
          rotate_left
          · simp only [Act.put, List.setIfInBounds_toArray, List.set_cons_zero, List.set_cons_succ, i64_w, i32_w]
            rfl
          refine take_ (i := 0) (N := some 49) (v := ?_) (a' := ?_) #[true, false, true, false, false, false] rfl rfl (by kernel_rfl) (fun _ _ _ h => h) (Or.inl ⟨by rfl, ?_⟩) hHeld ?_ ?_
          rotate_left
          · rintro w' ⟨s0, s1, s2, s3, s4, s5, s6, s7⟩
            go_simp
            with_reducible rfl
          rotate_left
          · simp only [Act.put, List.setIfInBounds_toArray, List.set_cons_zero, List.set_cons_succ, i64_w, i32_w]
            rfl
          refine take_ (i := 1) (N := some 50) (v := ?_) (a' := ?_) #[true, true, true, false, false, false] rfl rfl (by kernel_rfl) (fun _ _ _ h => h) (Or.inl ⟨by rfl, ?_⟩) hHeld ?_ ?_
          rotate_left
          · rintro w' ⟨s0, s1, s2, s3, s4, s5, s6, s7⟩
            go_simp
            with_reducible rfl
          rotate_left
          · simp only [Act.put, List.setIfInBounds_toArray, List.set_cons_zero, List.set_cons_succ, i64_w, i32_w]
            rfl
          refine one_ (i := 3) (N := some 52) #[true, true, true, true, false, false] rfl rfl (by kernel_rfl) (by decide) (fun K hK => ?_)
          refine goes_ Try.func14 (by kernel_rfl) rfl #[.agg #[.slice Ao8 t355.length co8, .slice Ao10 t358.length co10, .int .i64 t361, .int .i64 t362], .int .i64 t363, .int .i64 (-1)] (by rfl) rfl rfl (by (try simp only [List.map_toArray, List.map_cons, List.map_nil]); first | done | rfl | (simp only [List.length_drop, List.length_take]; rfl)) ?_
          with_reducible refine (spec_DiskSet.calls kj4 _ _ t355 _ _ t358 t361 t362 t363 (-1) t385 t388 t391 t392 _ ?side1 ?side2 ?side3 ?side4 A59.out).mono ?_
          (case side1 => repeat (first | exact (Kd.zQ HO_366000.out).2.2 | (with_reducible refine Kd.zC ?_ _) | (with_reducible refine Kd.zD ?_ _) | (with_reducible refine Kd.zH ?_)))
          (case side2 => exact (Kd.zQ HO_366000.out).2.1)
          (case side3 => repeat (first | exact (Kd.qW HO_366001.out).2.2 | (with_reducible refine Kd.zC ?_ _) | (with_reducible refine Kd.zD ?_ _) | (with_reducible refine Kd.zH ?_)))
          (case side4 => exact (Kd.qW HO_366001.out).2.1)
          rintro e w62 ⟨v386, v389, rfl, ho0, ho1, hb⟩
          refine ⟨_, rfl, ?_⟩
          have n0_ := Aside0.mk (Kd.xF (by (with_reducible repeat (first | apply Kd.zL | apply Kd.zM | apply Kd.zN)); exact HO_366000.out) (Kd.zS ho0) hb)
          have n1_ := Aside0.mk (Kd.zR (by (with_reducible repeat (first | apply Kd.qK | apply Kd.qJ | apply Kd.qL)); exact HO_366001.out) (Kd.zS ho1) hb)
          have n2_ := Aside0.mk (Kd.xF (by (with_reducible repeat (first | apply Kd.zL | apply Kd.zM | apply Kd.zN)); exact HO_375000.out) (Kd.zS ho0) hb)
          have n3_ := Aside0.mk (Kd.zR (by (with_reducible repeat (first | apply Kd.qK | apply Kd.qJ | apply Kd.qL)); exact HO_375001.out) (Kd.zS ho1) hb)
          have n4_ := Aside0.mk (Kd.zJ (Kd.zT (Kd.zT ho0 (Kd.Q_lt (by (with_reducible repeat (first | apply Kd.zL | apply Kd.zM | apply Kd.zN)); exact HO_366000.out))) (Kd.Q_lt (by (with_reducible repeat (first | apply Kd.zL | apply Kd.zM | apply Kd.zN)); exact HO_375000.out))) (qN (by repeat (first | (with_reducible first | exact HB.out | apply qI | apply qD | apply qH | refine qG ?_ GE365.out | refine qG ?_ GE374.out) | exact HB.out))))
          have n5_ := Aside0.mk (Kd.zJ (Kd.zT (Kd.zT ho1 (Kd.R_lt (by (with_reducible repeat (first | apply Kd.qK | apply Kd.qJ | apply Kd.qL)); exact HO_366001.out))) (Kd.R_lt (by (with_reducible repeat (first | apply Kd.qK | apply Kd.qJ | apply Kd.qL)); exact HO_375001.out))) (qN (by repeat (first | (with_reducible first | exact HB.out | apply qI | apply qD | apply qH | refine qG ?_ GE365.out | refine qG ?_ GE374.out) | exact HB.out))))
          have n6_ := Aside0.mk (qM (g := gb365) (o := .cells #[.slice Ao8 t355.length co8, .slice Ao10 t358.length co10, .int .i64 t361, .int .i64 t362] 26 (0, 0)) (by (with_reducible repeat (first | refine qC ?_ _ | refine qF ?_ | refine qA ?_ _)); exact BK365.out) hb)
          have n7_ := Aside0.mk (qM (g := gb374) (o := .cells #[.slice Ao13 t366.length co13, .slice Ao16 t369.length co16, .int .i64 t372, .int .i64 t373] 26 (0, 0)) (by (with_reducible repeat (first | refine qC ?_ _ | refine qF ?_ | refine qA ?_ _)); exact BK374.out) hb)
          have n8_ := Aside0.mk (qO (by repeat (first | (with_reducible first | exact HB.out | apply qI | apply qD | apply qH | refine qG ?_ GE365.out | refine qG ?_ GE374.out) | exact HB.out)) hb)
          clear HO_366000
          clear HO_366001
          clear HO_375000
          clear HO_375001
          clear BK365
          clear BK374
          clear HB
          have HO_366000 := n0_
          have HO_366001 := n1_
          have HO_375000 := n2_
          have HO_375001 := n3_
          have HO387 := n4_
          have HO390 := n5_
          have BK365 := n6_
          have BK374 := n7_
          have HB := n8_
          clear n0_ n1_ n2_ n3_ n4_ n5_ n6_ n7_ n8_
          (try clear hb)
          (try clear hb2)
          (try clear hk)
          (try clear hi)
          (try clear ho0)
          (try clear ho1)
          obtain ⟨Ao63, co63, eo63⟩ := Kd.zF HO387.out
          (first | subst eo63 | (injection eo63 with f1_ f2_ f3_; have f4_ := f1_.symm; have f5_ := f3_.symm; clear f1_ f2_ f3_; subst f4_; subst f5_))
          obtain ⟨Ao64, co64, eo64⟩ := Kd.zF HO390.out
          (first | subst eo64 | (injection eo64 with f1_ f2_ f3_; have f4_ := f1_.symm; have f5_ := f3_.symm; clear f1_ f2_ f3_; subst f4_; subst f5_))
          refine hK.out _ _ ⟨(qB BK374.out 0).trans rfl, (qB BK374.out 1).trans rfl, (qB BK374.out 2).trans rfl, (qB BK374.out 3).trans rfl, (qB BK365.out 0).trans rfl, (qB BK365.out 1).trans rfl, (qB BK365.out 2).trans rfl, (qB BK365.out 3).trans rfl⟩ (fun hHeld => ?_)
          clear hK K
          refine norm_ (a' := ?_) ?_ ?_
          rotate_left
          · show Act.put _ (some 52) _ = _
            simp only [Act.put, List.setIfInBounds_toArray, List.set_cons_zero, List.set_cons_succ, i64_w, i32_w]
            rfl
          refine one_ (i := 4) (N := some 53) #[true, true, true, true, true, false] rfl rfl (by kernel_rfl) (by decide) (fun K hK => ?_)
          refine goes_ Try.func13 (by kernel_rfl) rfl #[.agg #[.slice Ao13 t366.length co13, .slice Ao16 t369.length co16, .int .i64 t372, .int .i64 t373], .agg #[.slice Ao63 t385.length co63, .slice Ao64 t388.length co64, .int .i64 t391, .int .i64 t392]] (by rfl) rfl rfl (by (try simp only [List.map_toArray, List.map_cons, List.map_nil]); first | done | rfl | (simp only [List.length_drop, List.length_take]; rfl)) ?_
          with_reducible refine (laws_jtDisk.calls kj4 _ _ t366 _ _ t369 t372 t373 _ _ t385 _ _ t388 t391 t392 t393 _ ?side1 ?side2 ?side3 ?side4 ?side5 ?side6 ?side7 ?side8 A60.out).mono ?_
          (case side1 => repeat (first | exact (Kd.zQ HO_375000.out).2.2 | (with_reducible refine Kd.zC ?_ _) | (with_reducible refine Kd.zD ?_ _) | (with_reducible refine Kd.zH ?_)))
          (case side2 => exact (Kd.zQ HO_375000.out).2.1)
          (case side3 => repeat (first | exact (Kd.qW HO_375001.out).2.2 | (with_reducible refine Kd.zC ?_ _) | (with_reducible refine Kd.zD ?_ _) | (with_reducible refine Kd.zH ?_)))
          (case side4 => exact (Kd.qW HO_375001.out).2.1)
          (case side5 => repeat (first | exact (Kd.qW HO387.out).2.2 | (with_reducible refine Kd.zC ?_ _) | (with_reducible refine Kd.zD ?_ _) | (with_reducible refine Kd.zH ?_)))
          (case side6 => exact (Kd.qW HO387.out).2.1)
          (case side7 => repeat (first | exact (Kd.qW HO390.out).2.2 | (with_reducible refine Kd.zC ?_ _) | (with_reducible refine Kd.zD ?_ _) | (with_reducible refine Kd.zH ?_)))
          (case side8 => exact (Kd.qW HO390.out).2.1)
          rintro e w65 ⟨rfl, hb⟩
          refine ⟨_, rfl, ?_⟩
          have n0_ := Aside0.mk (Kd.zZ (by (with_reducible repeat (first | apply Kd.zL | apply Kd.zM | apply Kd.zN)); exact HO_366000.out) hb)
          have n1_ := Aside0.mk (Kd.zA (by (with_reducible repeat (first | apply Kd.qK | apply Kd.qJ | apply Kd.qL)); exact HO_366001.out) hb)
          have n2_ := Aside0.mk (Kd.zZ (by (with_reducible repeat (first | apply Kd.zL | apply Kd.zM | apply Kd.zN)); exact HO_375000.out) hb)
          have n3_ := Aside0.mk (Kd.zA (by (with_reducible repeat (first | apply Kd.qK | apply Kd.qJ | apply Kd.qL)); exact HO_375001.out) hb)
          have n4_ := Aside0.mk (Kd.zA (by (with_reducible repeat (first | apply Kd.qK | apply Kd.qJ | apply Kd.qL)); exact HO387.out) hb)
          have n5_ := Aside0.mk (Kd.zA (by (with_reducible repeat (first | apply Kd.qK | apply Kd.qJ | apply Kd.qL)); exact HO390.out) hb)
          have n6_ := Aside0.mk (qM (g := gb365) (o := .cells #[.slice Ao8 t355.length co8, .slice Ao10 t358.length co10, .int .i64 t361, .int .i64 t362] 26 (0, 0)) (by (with_reducible repeat (first | refine qC ?_ _ | refine qF ?_ | refine qA ?_ _)); exact BK365.out) hb)
          have n7_ := Aside0.mk (qM (g := gb374) (o := .cells #[.slice Ao13 t366.length co13, .slice Ao16 t369.length co16, .int .i64 t372, .int .i64 t373] 26 (0, 0)) (by (with_reducible repeat (first | refine qC ?_ _ | refine qF ?_ | refine qA ?_ _)); exact BK374.out) hb)
          have n8_ := Aside0.mk (qO (by repeat (first | (with_reducible first | exact HB.out | apply qI | apply qD | apply qH | refine qG ?_ GE365.out | refine qG ?_ GE374.out) | exact HB.out)) hb)
          clear HO_366000
          clear HO_366001
          clear HO_375000
          clear HO_375001
          clear HO387
          clear HO390
          clear BK365
          clear BK374
          clear HB
          have HO_366000 := n0_
          have HO_366001 := n1_
          have HO_375000 := n2_
          have HO_375001 := n3_
          have HO387 := n4_
          have HO390 := n5_
          have BK365 := n6_
          have BK374 := n7_
          have HB := n8_
          clear n0_ n1_ n2_ n3_ n4_ n5_ n6_ n7_ n8_
          (try clear hb)
          (try clear hb2)
          (try clear hk)
          (try clear hi)
          refine hK.out _ _ ⟨(qB BK374.out 0).trans rfl, (qB BK374.out 1).trans rfl, (qB BK374.out 2).trans rfl, (qB BK374.out 3).trans rfl, (qB BK365.out 0).trans rfl, (qB BK365.out 1).trans rfl, (qB BK365.out 2).trans rfl, (qB BK365.out 3).trans rfl⟩ (fun hHeld => ?_)
          clear hK K
          refine norm_ (a' := ?_) ?_ ?_
          rotate_left
          · show Act.put _ (some 53) _ = _
            simp only [Act.put, List.setIfInBounds_toArray, List.set_cons_zero, List.set_cons_succ, i64_w, i32_w]
            rfl
          refine pure_ (i := 5) (N := some 2) (v := ?_) (a' := ?_) #[true, true, true, true, true, true] rfl rfl (by kernel_rfl) (fun _ _ _ h => h) (Or.inl ⟨by rfl, ?_⟩) ?_ ?_
          rotate_left
          · intro w'
            go_simp
            with_reducible rfl
          rotate_left
          · simp only [Act.put, List.setIfInBounds_toArray, List.set_cons_zero, List.set_cons_succ, i64_w, i32_w]
            rfl
          refine done_ (by kernel_rfl) ?_
          try go_wp2
          go_ret
          exact ⟨by first | rfl | (simp [errW_none, errW_some] <;> rfl) | (simp [*, errW_none, errW_some] <;> rfl), by repeat (first | (with_reducible first | exact HB.out | apply qI | apply qD | apply qH | refine qG ?_ GE365.out | refine qG ?_ GE374.out) | exact HB.out)⟩
        · replace c58 := Bool.eq_false_iff.mpr c58
          subst c58
          have H1 : (laws_FnDiskRoom.l0 kj4 t363 0 t355 t358 t361 t362 t366 t369 t372 t373) = some true := by rw [if_neg (show ¬ (false = true) by decide)] at H; exact H
          clear H
          have H := H1
          clear H1
          have H' := Aside0.mk H
          clear H
          go_wp2
          go_loopg [7] kj4 (fun kq v7 w' => ∃ (x7_2 : Int) (x375000_2 : List ByteArray) (x375001_2 : List (S70)) (x375002_2 : Int) (x375003_2 : Int) (u375000 : Value) (u375001 : Value), v7 = .int .i64 x7_2 ∧ Aside0 (laws_FnDiskRoom.l0 kq t363 x7_2 t355 t358 t361 t362 x375000_2 x375001_2 x375002_2 x375003_2 = some true) ∧ Aside0 (kq ≤ kj4) ∧ Aside0 (Kd.Q Kd.string 9 w' w.heap.size (fun k_ => some k_ ≠ (u375000 : Value).ownBlock) (.slice Ao8 t355.length co8) t355) ∧ Aside0 (Kd.R k70 70 w' w.heap.size (fun k_ => some k_ ≠ (u375001 : Value).ownBlock) (.slice Ao10 t358.length co10) t358) ∧ Aside0 (Kd.Q Kd.string 9 w' w.heap.size (fun k_ => some k_ ≠ ((.slice Ao8 t355.length co8) : Value).ownBlock) u375000 x375000_2) ∧ Aside0 (Kd.R k70 70 w' w.heap.size (fun k_ => some k_ ≠ ((.slice Ao10 t358.length co10) : Value).ownBlock) u375001 x375001_2) ∧ Aside0 (w'.heap[gb365]? = some (.cells #[(.slice Ao8 t355.length co8), (.slice Ao10 t358.length co10), .int .i64 t361, .int .i64 t362] 26 (0, 0))) ∧ Aside0 (w'.heap[gb374]? = some (.cells #[u375000, u375001, .int .i64 x375002_2, .int .i64 x375003_2] 26 (0, 0))) ∧ Aside0 (Below w.heap.size w w'))
          case atStart => exact ⟨(0), (t366), (t369), (t372), (t373), (.slice Ao13 t366.length co13), (.slice Ao16 t369.length co16), (by first | rfl | (simp; done) | (simp [*]; done)), H', ⟨Nat.le_refl _⟩, ⟨by (with_reducible repeat (first | apply Kd.zL | apply Kd.zM | apply Kd.zN)); exact HO_366000.out⟩, ⟨by (with_reducible repeat (first | apply Kd.qK | apply Kd.qJ | apply Kd.qL)); exact HO_366001.out⟩, ⟨by (with_reducible repeat (first | apply Kd.zL | apply Kd.zM | apply Kd.zN)); exact HO_375000.out⟩, ⟨by (with_reducible repeat (first | apply Kd.qK | apply Kd.qJ | apply Kd.qL)); exact HO_375001.out⟩, ⟨by (with_reducible repeat (first | refine qC ?_ _ | refine qF ?_ | refine qA ?_ _)); exact BK365.out⟩, ⟨by (with_reducible repeat (first | refine qC ?_ _ | refine qF ?_ | refine qA ?_ _)); exact BK374.out⟩, ⟨by repeat (first | (with_reducible first | exact HB.out | apply qI | apply qD | apply qH | refine qG ?_ GE365.out | refine qG ?_ GE374.out) | exact HB.out)⟩⟩
          case round =>
            clear H'
            try clear c1
            try clear p2
            try clear c5
            try clear c13
            try clear c14
            try clear c15
            try clear c19
            try clear c58
            try clear p2
            obtain ⟨x7_2, x375000_2, x375001_2, x375002_2, x375003_2, u375000, u375001, rfl, HA, HK2, HO_366000, HO_366001, HO_375000, HO_375001, BK365, BK374, HB⟩ := hrel
            cases gk with
            | zero => exact absurd HA.out (by simp [laws_FnDiskRoom.l0])
            | succ k2 =>
              have H := HA.out
              clear HA
              simp only [laws_FnDiskRoom.l0] at H
              by_cases c66 : x7_2 < t363
              · rw [if_pos c66] at H
                have c66b0 : decide (x7_2 < t363) = true := decide_eq_true c66
                clear c66
                replace H := Option.bind_eq_some_iff.mp H
                obtain ⟨⟨t394, t397, t400, t401, t402⟩, A670, H⟩ := H
                replace H : (if t402 = true then (laws_FnDiskRoom.l0 k2 t363 (wrap64 (x7_2 + 1)) t355 t358 t361 t362 t394 t397 t400 t401) else (some false)) = some true := H
                have A67 := Aside0.mk A670
                clear A670
                by_cases c68 : t402 = true
                · subst c68
                  have H1 : (laws_FnDiskRoom.l0 k2 t363 (wrap64 (x7_2 + 1)) t355 t358 t361 t362 t394 t397 t400 t401) = some true := by rw [if_pos rfl] at H; exact H
                  clear H
                  have H := H1
                  clear H1
                  have H' := Aside0.mk H
                  clear H
                  have hnb69 := NB374_365.out
                  have hnc69 := NB365_374.out
                  have hcz70_0 : wr.cell? ⟨gb374, 0, none⟩ = some (u375000) := (qB BK374.out 0).trans rfl
                  have hcz70_1 : wr.cell? ⟨gb374, 1, none⟩ = some (u375001) := (qB BK374.out 1).trans rfl
                  have hcz70_2 : wr.cell? ⟨gb374, 2, none⟩ = some (.int .i64 x375002_2) := (qB BK374.out 2).trans rfl
                  have hcz70_3 : wr.cell? ⟨gb374, 3, none⟩ = some (.int .i64 x375003_2) := (qB BK374.out 3).trans rfl
                  have hfz70_0 := qE BK374.out 0
                  have hfz70_1 := qE BK374.out 1
                  have hfz70_2 := qE BK374.out 2
                  have hfz70_3 := qE BK374.out 3
                  obtain ⟨Ao71, co71, eo71, _⟩ := Kd.Q_slice HO_375000.out
                  subst eo71
                  obtain ⟨Ao72, co72, eo72⟩ := Kd.zF HO_375001.out
                  subst eo72
                  go_wp2_with (first | ((with_reducible refine qZ (f := 16) rfl ?_); refine zO (some 61) rfl rfl Try.func16 (by kernel_rfl) rfl #[.agg #[.slice Ao71 x375000_2.length co71, .slice Ao72 x375001_2.length co72, .int .i64 x375002_2, .int .i64 x375003_2], .int .i64 5, .string (⟨#[116, 101, 120, 116]⟩ : ByteArray)] rfl (by (try simp only [List.map_toArray, List.map_cons, List.map_nil]); first | done | rfl | (simp only [List.length_drop, List.length_take]; rfl)) ?_; (with_reducible refine (impl_DiskWrite.calls _ _ x375000_2 _ _ x375001_2 x375002_2 x375003_2 5 (⟨#[116, 101, 120, 116]⟩ : ByteArray) t394 t397 t400 t401 true _ ?side1 ?side2 ?side3 ?side4 A67.out).mono ?_); (case side1 => repeat (first | exact (Kd.zQ HO_375000.out).2.2 | (with_reducible refine Kd.zC ?_ _) | (with_reducible refine Kd.zD ?_ _) | (with_reducible refine Kd.zH ?_))); (case side2 => exact (Kd.zQ HO_375000.out).2.1); (case side3 => repeat (first | exact (Kd.qW HO_375001.out).2.2 | (with_reducible refine Kd.zC ?_ _) | (with_reducible refine Kd.zD ?_ _) | (with_reducible refine Kd.zH ?_))); (case side4 => exact (Kd.qW HO_375001.out).2.1); rintro e w73 ⟨v395, v398, rfl, ho0, ho1, hb⟩; refine ⟨_, rfl, ?_⟩; have n0_ := Aside0.mk (Kd.xF (by (with_reducible repeat (first | apply Kd.zL | apply Kd.zM | apply Kd.zN)); exact HO_366000.out) (Kd.zS ho0) hb); have n1_ := Aside0.mk (Kd.zR (by (with_reducible repeat (first | apply Kd.qK | apply Kd.qJ | apply Kd.qL)); exact HO_366001.out) (Kd.zS ho1) hb); have n2_ := Aside0.mk (Kd.xF (by (with_reducible repeat (first | apply Kd.zL | apply Kd.zM | apply Kd.zN)); exact HO_375000.out) (Kd.zS ho0) hb); have n3_ := Aside0.mk (Kd.zR (by (with_reducible repeat (first | apply Kd.qK | apply Kd.qJ | apply Kd.qL)); exact HO_375001.out) (Kd.zS ho1) hb); have n4_ := Aside0.mk (Kd.zJ (Kd.zT (Kd.zT ho0 (Kd.Q_lt (by (with_reducible repeat (first | apply Kd.zL | apply Kd.zM | apply Kd.zN)); exact HO_366000.out))) (Kd.Q_lt (by (with_reducible repeat (first | apply Kd.zL | apply Kd.zM | apply Kd.zN)); exact HO_375000.out))) (qN (by repeat (first | (with_reducible first | exact HB.out | apply qI | apply qD | apply qH | refine qG ?_ GE365.out | refine qG ?_ GE374.out) | exact HB.out)))); have n5_ := Aside0.mk (Kd.zJ (Kd.zT (Kd.zT ho1 (Kd.R_lt (by (with_reducible repeat (first | apply Kd.qK | apply Kd.qJ | apply Kd.qL)); exact HO_366001.out))) (Kd.R_lt (by (with_reducible repeat (first | apply Kd.qK | apply Kd.qJ | apply Kd.qL)); exact HO_375001.out))) (qN (by repeat (first | (with_reducible first | exact HB.out | apply qI | apply qD | apply qH | refine qG ?_ GE365.out | refine qG ?_ GE374.out) | exact HB.out)))); have n6_ := Aside0.mk (qM (g := gb365) (o := .cells #[.slice Ao8 t355.length co8, .slice Ao10 t358.length co10, .int .i64 t361, .int .i64 t362] 26 (0, 0)) (by (with_reducible repeat (first | refine qC ?_ _ | refine qF ?_ | refine qA ?_ _)); exact BK365.out) hb); have n7_ := Aside0.mk (qM (g := gb374) (o := .cells #[.slice Ao71 x375000_2.length co71, .slice Ao72 x375001_2.length co72, .int .i64 x375002_2, .int .i64 x375003_2] 26 (0, 0)) (by (with_reducible repeat (first | refine qC ?_ _ | refine qF ?_ | refine qA ?_ _)); exact BK374.out) hb); have n8_ := Aside0.mk (qO (by repeat (first | (with_reducible first | exact HB.out | apply qI | apply qD | apply qH | refine qG ?_ GE365.out | refine qG ?_ GE374.out) | exact HB.out)) hb); clear HO_366000; clear HO_366001; clear HO_375000; clear HO_375001; clear BK365; clear BK374; clear HB; have HO_366000 := n0_; have HO_366001 := n1_; have HO_375000 := n2_; have HO_375001 := n3_; have HO396 := n4_; have HO399 := n5_; have BK365 := n6_; have BK374 := n7_; have HB := n8_; clear n0_ n1_ n2_ n3_ n4_ n5_ n6_ n7_ n8_; (try clear hb); (try clear hb2); (try clear hk); (try clear hi); (try clear ho0); (try clear ho1)) | ((with_reducible refine zB (N := 8) rfl ?_); refine qY ?hg (N := 8) ?hd (cs := #[.slice none 0 0, .slice none 0 0, .int .i64 0, .int .i64 0]) (t := 26) ?hr ?_; (case hd => rfl); (case hg => rfl); (case hr => first | (go_simp; done) | (go_simp; rfl)); intro gb403 hg w74 hbox hb; have n0_ := Aside0.mk (Kd.zZ (by (with_reducible repeat (first | apply Kd.zL | apply Kd.zM | apply Kd.zN)); exact HO_366000.out) hb); have n1_ := Aside0.mk (Kd.zA (by (with_reducible repeat (first | apply Kd.qK | apply Kd.qJ | apply Kd.qL)); exact HO_366001.out) hb); have n2_ := Aside0.mk (Kd.zZ (by (with_reducible repeat (first | apply Kd.zL | apply Kd.zM | apply Kd.zN)); exact HO_375000.out) hb); have n3_ := Aside0.mk (Kd.zA (by (with_reducible repeat (first | apply Kd.qK | apply Kd.qJ | apply Kd.qL)); exact HO_375001.out) hb); have n4_ := Aside0.mk (Kd.zA (by (with_reducible repeat (first | apply Kd.qK | apply Kd.qJ | apply Kd.qL)); exact HO396.out) hb); have n5_ := Aside0.mk (Kd.zA (by (with_reducible repeat (first | apply Kd.qK | apply Kd.qJ | apply Kd.qL)); exact HO399.out) hb); have n6_ := Aside0.mk (qM (g := gb365) (o := .cells #[.slice Ao8 t355.length co8, .slice Ao10 t358.length co10, .int .i64 t361, .int .i64 t362] 26 (0, 0)) (by (with_reducible repeat (first | refine qC ?_ _ | refine qF ?_ | refine qA ?_ _)); exact BK365.out) hb); have n7_ := Aside0.mk (qM (g := gb374) (o := .cells #[.slice Ao71 x375000_2.length co71, .slice Ao72 x375001_2.length co72, .int .i64 x375002_2, .int .i64 x375003_2] 26 (0, 0)) (by (with_reducible repeat (first | refine qC ?_ _ | refine qF ?_ | refine qA ?_ _)); exact BK374.out) hb); have n8_ := Aside0.mk (qO (by repeat (first | (with_reducible first | exact HB.out | apply qI | apply qD | apply qH | refine qG ?_ GE365.out | refine qG ?_ GE374.out) | exact HB.out)) hb); have n9_ := Aside0.mk (hbox); have n10_ := Aside0.mk ((by rw [hg]; exact (qN (by repeat (first | (with_reducible first | exact HB.out | apply qI | apply qD | apply qH | refine qG ?_ GE365.out | refine qG ?_ GE374.out) | exact HB.out))) : w.heap.size ≤ gb403)); have n11_ := Aside0.mk ((by rw [hg]; exact (qN (by repeat (first | (with_reducible first | exact HB.out | apply qI | apply qD | apply qH | refine qG ?_ GE365.out | refine qG ?_ GE374.out) | exact HB.out))) : w.heap.size ≤ gb403)); have n12_ := Aside0.mk ((by rw [hg]; exact Nat.ne_of_lt (zG (g := gb365) (o := .cells #[.slice Ao8 t355.length co8, .slice Ao10 t358.length co10, .int .i64 t361, .int .i64 t362] 26 (0, 0)) (by (with_reducible repeat (first | refine qC ?_ _ | refine qF ?_ | refine qA ?_ _)); exact BK365.out)) : gb365 ≠ gb403)); have n13_ := Aside0.mk ((by rw [hg]; exact Nat.ne_of_gt (zG (g := gb365) (o := .cells #[.slice Ao8 t355.length co8, .slice Ao10 t358.length co10, .int .i64 t361, .int .i64 t362] 26 (0, 0)) (by (with_reducible repeat (first | refine qC ?_ _ | refine qF ?_ | refine qA ?_ _)); exact BK365.out)) : gb403 ≠ gb365)); have n14_ := Aside0.mk ((by rw [hg]; exact Nat.ne_of_lt (zG (g := gb374) (o := .cells #[.slice Ao71 x375000_2.length co71, .slice Ao72 x375001_2.length co72, .int .i64 x375002_2, .int .i64 x375003_2] 26 (0, 0)) (by (with_reducible repeat (first | refine qC ?_ _ | refine qF ?_ | refine qA ?_ _)); exact BK374.out)) : gb374 ≠ gb403)); have n15_ := Aside0.mk ((by rw [hg]; exact Nat.ne_of_gt (zG (g := gb374) (o := .cells #[.slice Ao71 x375000_2.length co71, .slice Ao72 x375001_2.length co72, .int .i64 x375002_2, .int .i64 x375003_2] 26 (0, 0)) (by (with_reducible repeat (first | refine qC ?_ _ | refine qF ?_ | refine qA ?_ _)); exact BK374.out)) : gb403 ≠ gb374)); clear HO_366000; clear HO_366001; clear HO_375000; clear HO_375001; clear HO396; clear HO399; clear BK365; clear BK374; clear HB; have HO_366000 := n0_; have HO_366001 := n1_; have HO_375000 := n2_; have HO_375001 := n3_; have HO396 := n4_; have HO399 := n5_; have BK365 := n6_; have BK374 := n7_; have HB := n8_; have BK403 := n9_; have GW403 := n10_; have GE403 := n11_; have NB365_403 := n12_; have NB403_365 := n13_; have NB374_403 := n14_; have NB403_374 := n15_; clear n0_ n1_ n2_ n3_ n4_ n5_ n6_ n7_ n8_ n9_ n10_ n11_ n12_ n13_ n14_ n15_; clear hb hbox hg; obtain ⟨Ao75, co75, eo75⟩ := Kd.zF HO396.out; subst eo75; have hnb76 := NB403_365.out; have hnc76 := NB365_403.out; have hnb77 := NB403_374.out; have hnc77 := NB374_403.out; have hcz78_0 : w74.cell? ⟨gb403, 0, none⟩ = some (.slice none 0 0) := (qB BK403.out 0).trans rfl; have hcz78_1 : w74.cell? ⟨gb403, 1, none⟩ = some (.slice none 0 0) := (qB BK403.out 1).trans rfl; have hcz78_2 : w74.cell? ⟨gb403, 2, none⟩ = some (.int .i64 0) := (qB BK403.out 2).trans rfl; have hcz78_3 : w74.cell? ⟨gb403, 3, none⟩ = some (.int .i64 0) := (qB BK403.out 3).trans rfl; have hfz78_0 := qE BK403.out 0; have hfz78_1 := qE BK403.out 1; have hfz78_2 := qE BK403.out 2; have hfz78_3 := qE BK403.out 3; obtain ⟨Ao79, co79, eo79⟩ := Kd.zF HO399.out; subst eo79; have hcz80_0 : w74.cell? ⟨gb374, 0, none⟩ = some (.slice Ao71 x375000_2.length co71) := (qB BK374.out 0).trans rfl; have hcz80_1 : w74.cell? ⟨gb374, 1, none⟩ = some (.slice Ao72 x375001_2.length co72) := (qB BK374.out 1).trans rfl; have hcz80_2 : w74.cell? ⟨gb374, 2, none⟩ = some (.int .i64 x375002_2) := (qB BK374.out 2).trans rfl; have hcz80_3 : w74.cell? ⟨gb374, 3, none⟩ = some (.int .i64 x375003_2) := (qB BK374.out 3).trans rfl; have hfz80_0 := qE BK374.out 0; have hfz80_1 := qE BK374.out 1; have hfz80_2 := qE BK374.out 2; have hfz80_3 := qE BK374.out 3))
                  go_roundg k2
                  case measure => have := HJ4.out; have := HK2.out; omega
                  case rel => exact ⟨(wrap64 (x7_2 + 1)), (t394), (t397), (t400), (t401), (.slice Ao75 t394.length co75), (.slice Ao79 t397.length co79), (by first | rfl | (simp; done) | (simp [*]; done)), H', ⟨by have := HJ4.out; have := HK2.out; omega⟩, ⟨by (with_reducible repeat (first | apply Kd.zL | apply Kd.zM | apply Kd.zN)); exact Kd.zX (Kd.Q_far (p := ⟨gb374, 3, none⟩) (Kd.Q_far (p := ⟨gb374, 2, none⟩) (Kd.Q_far (p := ⟨gb374, 1, none⟩) (Kd.Q_far (p := ⟨gb374, 0, none⟩) (Kd.Q_far (p := ⟨gb403, 3, none⟩) (Kd.Q_far (p := ⟨gb403, 2, none⟩) (Kd.Q_far (p := ⟨gb403, 1, none⟩) (Kd.Q_far (p := ⟨gb403, 0, none⟩) (Kd.xB (Kd.xB HO_366000.out BK403.out (by decide)) BK374.out (by decide)) (fun _ hk => hk.1.2) (.slice Ao75 t394.length co75)) (fun _ hk => hk.1.2) (.slice Ao79 t397.length co79)) (fun _ hk => hk.1.2) (.int .i64 t400)) (fun _ hk => hk.1.2) (.int .i64 t401)) (fun _ hk => hk.2) (.slice Ao75 t394.length co75)) (fun _ hk => hk.2) (.slice Ao79 t397.length co79)) (fun _ hk => hk.2) (.int .i64 t400)) (fun _ hk => hk.2) (.int .i64 t401)) (fun _ hk => hk.1.1.2)⟩, ⟨by (with_reducible repeat (first | apply Kd.qK | apply Kd.qJ | apply Kd.qL)); exact Kd.qV (Kd.R_far (p := ⟨gb374, 3, none⟩) (Kd.R_far (p := ⟨gb374, 2, none⟩) (Kd.R_far (p := ⟨gb374, 1, none⟩) (Kd.R_far (p := ⟨gb374, 0, none⟩) (Kd.R_far (p := ⟨gb403, 3, none⟩) (Kd.R_far (p := ⟨gb403, 2, none⟩) (Kd.R_far (p := ⟨gb403, 1, none⟩) (Kd.R_far (p := ⟨gb403, 0, none⟩) (Kd.qX (Kd.qX HO_366001.out BK403.out (by decide)) BK374.out (by decide)) (fun _ hk => hk.1.2) (.slice Ao75 t394.length co75)) (fun _ hk => hk.1.2) (.slice Ao79 t397.length co79)) (fun _ hk => hk.1.2) (.int .i64 t400)) (fun _ hk => hk.1.2) (.int .i64 t401)) (fun _ hk => hk.2) (.slice Ao75 t394.length co75)) (fun _ hk => hk.2) (.slice Ao79 t397.length co79)) (fun _ hk => hk.2) (.int .i64 t400)) (fun _ hk => hk.2) (.int .i64 t401)) (fun _ hk => hk.1.1.2)⟩, ⟨Kd.Q_of_R (by (with_reducible repeat (first | apply Kd.qK | apply Kd.qJ | apply Kd.qL)); exact Kd.qV (Kd.R_far (p := ⟨gb374, 3, none⟩) (Kd.R_far (p := ⟨gb374, 2, none⟩) (Kd.R_far (p := ⟨gb374, 1, none⟩) (Kd.R_far (p := ⟨gb374, 0, none⟩) (Kd.R_far (p := ⟨gb403, 3, none⟩) (Kd.R_far (p := ⟨gb403, 2, none⟩) (Kd.R_far (p := ⟨gb403, 1, none⟩) (Kd.R_far (p := ⟨gb403, 0, none⟩) (Kd.qX (Kd.qX HO396.out BK403.out (by decide)) BK374.out (by decide)) (fun _ hk => hk.1.2) (.slice Ao75 t394.length co75)) (fun _ hk => hk.1.2) (.slice Ao79 t397.length co79)) (fun _ hk => hk.1.2) (.int .i64 t400)) (fun _ hk => hk.1.2) (.int .i64 t401)) (fun _ hk => hk.2) (.slice Ao75 t394.length co75)) (fun _ hk => hk.2) (.slice Ao79 t397.length co79)) (fun _ hk => hk.2) (.int .i64 t400)) (fun _ hk => hk.2) (.int .i64 t401)) (fun _ hk => hk.1.1.1.2))⟩, ⟨by (with_reducible repeat (first | apply Kd.qK | apply Kd.qJ | apply Kd.qL)); exact Kd.qV (Kd.R_far (p := ⟨gb374, 3, none⟩) (Kd.R_far (p := ⟨gb374, 2, none⟩) (Kd.R_far (p := ⟨gb374, 1, none⟩) (Kd.R_far (p := ⟨gb374, 0, none⟩) (Kd.R_far (p := ⟨gb403, 3, none⟩) (Kd.R_far (p := ⟨gb403, 2, none⟩) (Kd.R_far (p := ⟨gb403, 1, none⟩) (Kd.R_far (p := ⟨gb403, 0, none⟩) (Kd.qX (Kd.qX HO399.out BK403.out (by decide)) BK374.out (by decide)) (fun _ hk => hk.1.2) (.slice Ao75 t394.length co75)) (fun _ hk => hk.1.2) (.slice Ao79 t397.length co79)) (fun _ hk => hk.1.2) (.int .i64 t400)) (fun _ hk => hk.1.2) (.int .i64 t401)) (fun _ hk => hk.2) (.slice Ao75 t394.length co75)) (fun _ hk => hk.2) (.slice Ao79 t397.length co79)) (fun _ hk => hk.2) (.int .i64 t400)) (fun _ hk => hk.2) (.int .i64 t401)) (fun _ hk => hk.1.1.1.2)⟩, ⟨by (with_reducible repeat (first | refine qC ?_ _ | refine qF ?_ | refine qA ?_ _)); refine qU ?_ NB365_374.out _; (with_reducible repeat (first | refine qC ?_ _ | refine qF ?_ | refine qA ?_ _)); refine qU ?_ NB365_374.out _; (with_reducible repeat (first | refine qC ?_ _ | refine qF ?_ | refine qA ?_ _)); refine qU ?_ NB365_374.out _; (with_reducible repeat (first | refine qC ?_ _ | refine qF ?_ | refine qA ?_ _)); refine qU ?_ NB365_374.out _; (with_reducible repeat (first | refine qC ?_ _ | refine qF ?_ | refine qA ?_ _)); refine qU ?_ NB365_403.out _; (with_reducible repeat (first | refine qC ?_ _ | refine qF ?_ | refine qA ?_ _)); refine qU ?_ NB365_403.out _; (with_reducible repeat (first | refine qC ?_ _ | refine qF ?_ | refine qA ?_ _)); refine qU ?_ NB365_403.out _; (with_reducible repeat (first | refine qC ?_ _ | refine qF ?_ | refine qA ?_ _)); refine qU ?_ NB365_403.out _; (with_reducible repeat (first | refine qC ?_ _ | refine qF ?_ | refine qA ?_ _)); exact BK365.out⟩, ⟨by (with_reducible repeat (first | refine qC ?_ _ | refine qF ?_ | refine qA ?_ _)); refine qR (cs := #[.slice Ao75 t394.length co75, .slice Ao79 t397.length co79, .int .i64 t400, .int .i64 x375003_2]) ?_ 3 _ rfl; (with_reducible repeat (first | refine qC ?_ _ | refine qF ?_ | refine qA ?_ _)); refine qR (cs := #[.slice Ao75 t394.length co75, .slice Ao79 t397.length co79, .int .i64 x375002_2, .int .i64 x375003_2]) ?_ 2 _ rfl; (with_reducible repeat (first | refine qC ?_ _ | refine qF ?_ | refine qA ?_ _)); refine qR (cs := #[.slice Ao75 t394.length co75, .slice Ao72 x375001_2.length co72, .int .i64 x375002_2, .int .i64 x375003_2]) ?_ 1 _ rfl; (with_reducible repeat (first | refine qC ?_ _ | refine qF ?_ | refine qA ?_ _)); refine qR (cs := #[.slice Ao71 x375000_2.length co71, .slice Ao72 x375001_2.length co72, .int .i64 x375002_2, .int .i64 x375003_2]) ?_ 0 _ rfl; (with_reducible repeat (first | refine qC ?_ _ | refine qF ?_ | refine qA ?_ _)); refine qU ?_ NB374_403.out _; (with_reducible repeat (first | refine qC ?_ _ | refine qF ?_ | refine qA ?_ _)); refine qU ?_ NB374_403.out _; (with_reducible repeat (first | refine qC ?_ _ | refine qF ?_ | refine qA ?_ _)); refine qU ?_ NB374_403.out _; (with_reducible repeat (first | refine qC ?_ _ | refine qF ?_ | refine qA ?_ _)); refine qU ?_ NB374_403.out _; (with_reducible repeat (first | refine qC ?_ _ | refine qF ?_ | refine qA ?_ _)); exact BK374.out⟩, ⟨by repeat (first | (with_reducible first | exact HB.out | apply qI | apply qD | apply qH | refine qG ?_ GE365.out | refine qG ?_ GE374.out | refine qG ?_ GE403.out) | exact HB.out)⟩⟩
                · replace c68 := Bool.eq_false_iff.mpr c68
                  subst c68
                  have H1 : (some false) = some true := by rw [if_neg (show ¬ (false = true) by decide)] at H; exact H
                  clear H
                  have H := H1
                  clear H1
                  exact absurd H (by simp)
              · rw [if_neg c66] at H
                have c66b0 : decide (x7_2 < t363) = false := decide_eq_false c66
                clear c66
                replace H := Option.bind_eq_some_iff.mp H
                obtain ⟨⟨t404, t407, t410, t411, t412⟩, A810, H⟩ := H
                replace H : (if t412 = true then (some false) else ((laws_jtDisk.f k2 t404 t407 t410 t411 x375000_2 x375001_2 x375002_2 x375003_2).bind fun t414 => (if t414 = true then (some ((x375001_2.length : Int) == (wrap64 ((t358.length : Int) + t363)))) else (some false)))) = some true := H
                have A81 := Aside0.mk A810
                clear A810
                by_cases c82 : t412 = true
                · subst c82
                  have H1 : (some false) = some true := by rw [if_pos rfl] at H; exact H
                  clear H
                  have H := H1
                  clear H1
                  exact absurd H (by simp)
                · replace c82 := Bool.eq_false_iff.mpr c82
                  subst c82
                  have H1 : ((laws_jtDisk.f k2 t404 t407 t410 t411 x375000_2 x375001_2 x375002_2 x375003_2).bind fun t414 => (if t414 = true then (some ((x375001_2.length : Int) == (wrap64 ((t358.length : Int) + t363)))) else (some false))) = some true := by rw [if_neg (show ¬ (false = true) by decide)] at H; exact H
                  clear H
                  have H := H1
                  clear H1
                  replace H := Option.bind_eq_some_iff.mp H
                  obtain ⟨t414, A830, H⟩ := H
                  replace H : (if t414 = true then (some ((x375001_2.length : Int) == (wrap64 ((t358.length : Int) + t363)))) else (some false)) = some true := H
                  have A83 := Aside0.mk A830
                  clear A830
                  by_cases c84 : t414 = true
                  · subst c84
                    have H1 : (some ((x375001_2.length : Int) == (wrap64 ((t358.length : Int) + t363)))) = some true := by rw [if_pos rfl] at H; exact H
                    clear H
                    have H := H1
                    clear H1
                    have HT_ : ((x375001_2.length : Int) == (wrap64 ((t358.length : Int) + t363))) = true := Option.some.inj H
                    clear H
                    have hnb85 := NB374_365.out
                    have hnc85 := NB365_374.out
                    have hcz86_0 : wr.cell? ⟨gb374, 0, none⟩ = some (u375000) := (qB BK374.out 0).trans rfl
                    have hcz86_1 : wr.cell? ⟨gb374, 1, none⟩ = some (u375001) := (qB BK374.out 1).trans rfl
                    have hcz86_2 : wr.cell? ⟨gb374, 2, none⟩ = some (.int .i64 x375002_2) := (qB BK374.out 2).trans rfl
                    have hcz86_3 : wr.cell? ⟨gb374, 3, none⟩ = some (.int .i64 x375003_2) := (qB BK374.out 3).trans rfl
                    have hfz86_0 := qE BK374.out 0
                    have hfz86_1 := qE BK374.out 1
                    have hfz86_2 := qE BK374.out 2
                    have hfz86_3 := qE BK374.out 3
                    obtain ⟨Ao87, co87, eo87, _⟩ := Kd.Q_slice HO_375000.out
                    subst eo87
                    obtain ⟨Ao88, co88, eo88⟩ := Kd.zF HO_375001.out
                    subst eo88
                    go_wp2_with (first | ((with_reducible refine qZ (f := 16) rfl ?_); refine zO (some 69) rfl rfl Try.func16 (by kernel_rfl) rfl #[.agg #[.slice Ao87 x375000_2.length co87, .slice Ao88 x375001_2.length co88, .int .i64 x375002_2, .int .i64 x375003_2], .int .i64 5, .string (⟨#[109, 111, 114, 101]⟩ : ByteArray)] rfl (by (try simp only [List.map_toArray, List.map_cons, List.map_nil]); first | done | rfl | (simp only [List.length_drop, List.length_take]; rfl)) ?_; (with_reducible refine (impl_DiskWrite.calls _ _ x375000_2 _ _ x375001_2 x375002_2 x375003_2 5 (⟨#[109, 111, 114, 101]⟩ : ByteArray) t404 t407 t410 t411 false _ ?side1 ?side2 ?side3 ?side4 A81.out).mono ?_); (case side1 => repeat (first | exact (Kd.zQ HO_375000.out).2.2 | (with_reducible refine Kd.zC ?_ _) | (with_reducible refine Kd.zD ?_ _) | (with_reducible refine Kd.zH ?_))); (case side2 => exact (Kd.zQ HO_375000.out).2.1); (case side3 => repeat (first | exact (Kd.qW HO_375001.out).2.2 | (with_reducible refine Kd.zC ?_ _) | (with_reducible refine Kd.zD ?_ _) | (with_reducible refine Kd.zH ?_))); (case side4 => exact (Kd.qW HO_375001.out).2.1); rintro e w89 ⟨v405, v408, rfl, ho0, ho1, hb⟩; refine ⟨_, rfl, ?_⟩; have n0_ := Aside0.mk (Kd.xF (by (with_reducible repeat (first | apply Kd.zL | apply Kd.zM | apply Kd.zN)); exact HO_366000.out) (Kd.zS ho0) hb); have n1_ := Aside0.mk (Kd.zR (by (with_reducible repeat (first | apply Kd.qK | apply Kd.qJ | apply Kd.qL)); exact HO_366001.out) (Kd.zS ho1) hb); have n2_ := Aside0.mk (Kd.xF (by (with_reducible repeat (first | apply Kd.zL | apply Kd.zM | apply Kd.zN)); exact HO_375000.out) (Kd.zS ho0) hb); have n3_ := Aside0.mk (Kd.zR (by (with_reducible repeat (first | apply Kd.qK | apply Kd.qJ | apply Kd.qL)); exact HO_375001.out) (Kd.zS ho1) hb); have n4_ := Aside0.mk (Kd.zJ (Kd.zT (Kd.zT ho0 (Kd.Q_lt (by (with_reducible repeat (first | apply Kd.zL | apply Kd.zM | apply Kd.zN)); exact HO_366000.out))) (Kd.Q_lt (by (with_reducible repeat (first | apply Kd.zL | apply Kd.zM | apply Kd.zN)); exact HO_375000.out))) (qN (by repeat (first | (with_reducible first | exact HB.out | apply qI | apply qD | apply qH | refine qG ?_ GE365.out | refine qG ?_ GE374.out) | exact HB.out)))); have n5_ := Aside0.mk (Kd.zJ (Kd.zT (Kd.zT ho1 (Kd.R_lt (by (with_reducible repeat (first | apply Kd.qK | apply Kd.qJ | apply Kd.qL)); exact HO_366001.out))) (Kd.R_lt (by (with_reducible repeat (first | apply Kd.qK | apply Kd.qJ | apply Kd.qL)); exact HO_375001.out))) (qN (by repeat (first | (with_reducible first | exact HB.out | apply qI | apply qD | apply qH | refine qG ?_ GE365.out | refine qG ?_ GE374.out) | exact HB.out)))); have n6_ := Aside0.mk (qM (g := gb365) (o := .cells #[.slice Ao8 t355.length co8, .slice Ao10 t358.length co10, .int .i64 t361, .int .i64 t362] 26 (0, 0)) (by (with_reducible repeat (first | refine qC ?_ _ | refine qF ?_ | refine qA ?_ _)); exact BK365.out) hb); have n7_ := Aside0.mk (qM (g := gb374) (o := .cells #[.slice Ao87 x375000_2.length co87, .slice Ao88 x375001_2.length co88, .int .i64 x375002_2, .int .i64 x375003_2] 26 (0, 0)) (by (with_reducible repeat (first | refine qC ?_ _ | refine qF ?_ | refine qA ?_ _)); exact BK374.out) hb); have n8_ := Aside0.mk (qO (by repeat (first | (with_reducible first | exact HB.out | apply qI | apply qD | apply qH | refine qG ?_ GE365.out | refine qG ?_ GE374.out) | exact HB.out)) hb); clear HO_366000; clear HO_366001; clear HO_375000; clear HO_375001; clear BK365; clear BK374; clear HB; have HO_366000 := n0_; have HO_366001 := n1_; have HO_375000 := n2_; have HO_375001 := n3_; have HO406 := n4_; have HO409 := n5_; have BK365 := n6_; have BK374 := n7_; have HB := n8_; clear n0_ n1_ n2_ n3_ n4_ n5_ n6_ n7_ n8_; (try clear hb); (try clear hb2); (try clear hk); (try clear hi); (try clear ho0); (try clear ho1)) | ((with_reducible refine zB (N := 10) rfl ?_); refine qY ?hg (N := 10) ?hd (cs := #[.slice none 0 0, .slice none 0 0, .int .i64 0, .int .i64 0]) (t := 26) ?hr ?_; (case hd => rfl); (case hg => rfl); (case hr => first | (go_simp; done) | (go_simp; rfl)); intro gb413 hg w90 hbox hb; have n0_ := Aside0.mk (Kd.zZ (by (with_reducible repeat (first | apply Kd.zL | apply Kd.zM | apply Kd.zN)); exact HO_366000.out) hb); have n1_ := Aside0.mk (Kd.zA (by (with_reducible repeat (first | apply Kd.qK | apply Kd.qJ | apply Kd.qL)); exact HO_366001.out) hb); have n2_ := Aside0.mk (Kd.zZ (by (with_reducible repeat (first | apply Kd.zL | apply Kd.zM | apply Kd.zN)); exact HO_375000.out) hb); have n3_ := Aside0.mk (Kd.zA (by (with_reducible repeat (first | apply Kd.qK | apply Kd.qJ | apply Kd.qL)); exact HO_375001.out) hb); have n4_ := Aside0.mk (Kd.zA (by (with_reducible repeat (first | apply Kd.qK | apply Kd.qJ | apply Kd.qL)); exact HO406.out) hb); have n5_ := Aside0.mk (Kd.zA (by (with_reducible repeat (first | apply Kd.qK | apply Kd.qJ | apply Kd.qL)); exact HO409.out) hb); have n6_ := Aside0.mk (qM (g := gb365) (o := .cells #[.slice Ao8 t355.length co8, .slice Ao10 t358.length co10, .int .i64 t361, .int .i64 t362] 26 (0, 0)) (by (with_reducible repeat (first | refine qC ?_ _ | refine qF ?_ | refine qA ?_ _)); exact BK365.out) hb); have n7_ := Aside0.mk (qM (g := gb374) (o := .cells #[.slice Ao87 x375000_2.length co87, .slice Ao88 x375001_2.length co88, .int .i64 x375002_2, .int .i64 x375003_2] 26 (0, 0)) (by (with_reducible repeat (first | refine qC ?_ _ | refine qF ?_ | refine qA ?_ _)); exact BK374.out) hb); have n8_ := Aside0.mk (qO (by repeat (first | (with_reducible first | exact HB.out | apply qI | apply qD | apply qH | refine qG ?_ GE365.out | refine qG ?_ GE374.out) | exact HB.out)) hb); have n9_ := Aside0.mk (hbox); have n10_ := Aside0.mk ((by rw [hg]; exact (qN (by repeat (first | (with_reducible first | exact HB.out | apply qI | apply qD | apply qH | refine qG ?_ GE365.out | refine qG ?_ GE374.out) | exact HB.out))) : w.heap.size ≤ gb413)); have n11_ := Aside0.mk ((by rw [hg]; exact (qN (by repeat (first | (with_reducible first | exact HB.out | apply qI | apply qD | apply qH | refine qG ?_ GE365.out | refine qG ?_ GE374.out) | exact HB.out))) : w.heap.size ≤ gb413)); have n12_ := Aside0.mk ((by rw [hg]; exact Nat.ne_of_lt (zG (g := gb365) (o := .cells #[.slice Ao8 t355.length co8, .slice Ao10 t358.length co10, .int .i64 t361, .int .i64 t362] 26 (0, 0)) (by (with_reducible repeat (first | refine qC ?_ _ | refine qF ?_ | refine qA ?_ _)); exact BK365.out)) : gb365 ≠ gb413)); have n13_ := Aside0.mk ((by rw [hg]; exact Nat.ne_of_gt (zG (g := gb365) (o := .cells #[.slice Ao8 t355.length co8, .slice Ao10 t358.length co10, .int .i64 t361, .int .i64 t362] 26 (0, 0)) (by (with_reducible repeat (first | refine qC ?_ _ | refine qF ?_ | refine qA ?_ _)); exact BK365.out)) : gb413 ≠ gb365)); have n14_ := Aside0.mk ((by rw [hg]; exact Nat.ne_of_lt (zG (g := gb374) (o := .cells #[.slice Ao87 x375000_2.length co87, .slice Ao88 x375001_2.length co88, .int .i64 x375002_2, .int .i64 x375003_2] 26 (0, 0)) (by (with_reducible repeat (first | refine qC ?_ _ | refine qF ?_ | refine qA ?_ _)); exact BK374.out)) : gb374 ≠ gb413)); have n15_ := Aside0.mk ((by rw [hg]; exact Nat.ne_of_gt (zG (g := gb374) (o := .cells #[.slice Ao87 x375000_2.length co87, .slice Ao88 x375001_2.length co88, .int .i64 x375002_2, .int .i64 x375003_2] 26 (0, 0)) (by (with_reducible repeat (first | refine qC ?_ _ | refine qF ?_ | refine qA ?_ _)); exact BK374.out)) : gb413 ≠ gb374)); clear HO_366000; clear HO_366001; clear HO_375000; clear HO_375001; clear HO406; clear HO409; clear BK365; clear BK374; clear HB; have HO_366000 := n0_; have HO_366001 := n1_; have HO_375000 := n2_; have HO_375001 := n3_; have HO406 := n4_; have HO409 := n5_; have BK365 := n6_; have BK374 := n7_; have HB := n8_; have BK413 := n9_; have GW413 := n10_; have GE413 := n11_; have NB365_413 := n12_; have NB413_365 := n13_; have NB374_413 := n14_; have NB413_374 := n15_; clear n0_ n1_ n2_ n3_ n4_ n5_ n6_ n7_ n8_ n9_ n10_ n11_ n12_ n13_ n14_ n15_; clear hb hbox hg; obtain ⟨Ao91, co91, eo91⟩ := Kd.zF HO406.out; subst eo91; have hnb92 := NB413_365.out; have hnc92 := NB365_413.out; have hnb93 := NB413_374.out; have hnc93 := NB374_413.out; have hcz94_0 : w90.cell? ⟨gb413, 0, none⟩ = some (.slice none 0 0) := (qB BK413.out 0).trans rfl; have hcz94_1 : w90.cell? ⟨gb413, 1, none⟩ = some (.slice none 0 0) := (qB BK413.out 1).trans rfl; have hcz94_2 : w90.cell? ⟨gb413, 2, none⟩ = some (.int .i64 0) := (qB BK413.out 2).trans rfl; have hcz94_3 : w90.cell? ⟨gb413, 3, none⟩ = some (.int .i64 0) := (qB BK413.out 3).trans rfl; have hfz94_0 := qE BK413.out 0; have hfz94_1 := qE BK413.out 1; have hfz94_2 := qE BK413.out 2; have hfz94_3 := qE BK413.out 3; obtain ⟨Ao95, co95, eo95⟩ := Kd.zF HO409.out; subst eo95; have hcz96_0 : w90.cell? ⟨gb374, 0, none⟩ = some (.slice Ao87 x375000_2.length co87) := (qB BK374.out 0).trans rfl; have hcz96_1 : w90.cell? ⟨gb374, 1, none⟩ = some (.slice Ao88 x375001_2.length co88) := (qB BK374.out 1).trans rfl; have hcz96_2 : w90.cell? ⟨gb374, 2, none⟩ = some (.int .i64 x375002_2) := (qB BK374.out 2).trans rfl; have hcz96_3 : w90.cell? ⟨gb374, 3, none⟩ = some (.int .i64 x375003_2) := (qB BK374.out 3).trans rfl; have hfz96_0 := qE BK374.out 0; have hfz96_1 := qE BK374.out 1; have hfz96_2 := qE BK374.out 2; have hfz96_3 := qE BK374.out 3) | (go_at_call 13; (with_reducible refine (laws_jtDisk.calls k2 _ _ t404 _ _ t407 t410 t411 _ _ x375000_2 _ _ x375001_2 x375002_2 x375003_2 true _ ?side1 ?side2 ?side3 ?side4 ?side5 ?side6 ?side7 ?side8 A83.out).mono ?_); (case side1 => refine (Kd.qW (e := 9) (base := w.heap.size) (ok := fun k_ => ((True ∧ some k_ ≠ (.slice Ao8 t355.length co8 : Value).ownBlock) ∧ some k_ ≠ (.slice Ao87 x375000_2.length co87 : Value).ownBlock)) (n := t404.length) (c := co91) ?_).2.2; exact (by (with_reducible repeat (first | apply Kd.qK | apply Kd.qJ | apply Kd.qL)); exact (Kd.qV (Kd.R_far (p := ⟨gb413, 3, none⟩) (Kd.R_far (p := ⟨gb413, 2, none⟩) (Kd.R_far (p := ⟨gb413, 1, none⟩) (Kd.R_far (p := ⟨gb413, 0, none⟩) (Kd.qX HO406.out BK413.out (by decide)) (fun _ hk => hk.2) (.slice Ao91 t404.length co91)) (fun _ hk => hk.2) (.slice Ao95 t407.length co95)) (fun _ hk => hk.2) (.int .i64 t410)) (fun _ hk => hk.2) (.int .i64 t411)) (fun _ h_ => h_.1)))); (case side2 => exact (Kd.qW HO406.out).2.1); (case side3 => refine (Kd.qW (e := 70) (base := w.heap.size) (ok := fun k_ => ((True ∧ some k_ ≠ (.slice Ao10 t358.length co10 : Value).ownBlock) ∧ some k_ ≠ (.slice Ao88 x375001_2.length co88 : Value).ownBlock)) (n := t407.length) (c := co95) ?_).2.2; exact (by (with_reducible repeat (first | apply Kd.qK | apply Kd.qJ | apply Kd.qL)); exact (Kd.qV (Kd.R_far (p := ⟨gb413, 3, none⟩) (Kd.R_far (p := ⟨gb413, 2, none⟩) (Kd.R_far (p := ⟨gb413, 1, none⟩) (Kd.R_far (p := ⟨gb413, 0, none⟩) (Kd.qX HO409.out BK413.out (by decide)) (fun _ hk => hk.2) (.slice Ao91 t404.length co91)) (fun _ hk => hk.2) (.slice Ao95 t407.length co95)) (fun _ hk => hk.2) (.int .i64 t410)) (fun _ hk => hk.2) (.int .i64 t411)) (fun _ h_ => h_.1)))); (case side4 => exact (Kd.qW HO409.out).2.1); (case side5 => refine (Kd.zQ (e := 9) (base := w.heap.size) (ok := fun k_ => (some k_ ≠ (.slice Ao8 t355.length co8 : Value).ownBlock ∧ some k_ ≠ (.slice Ao91 t404.length co91 : Value).ownBlock)) (n := x375000_2.length) (c := co87) ?_).2.2; exact (by (with_reducible repeat (first | apply Kd.zL | apply Kd.zM | apply Kd.zN)); exact (Kd.zX (Kd.Q_far (p := ⟨gb413, 3, none⟩) (Kd.Q_far (p := ⟨gb413, 2, none⟩) (Kd.Q_far (p := ⟨gb413, 1, none⟩) (Kd.Q_far (p := ⟨gb413, 0, none⟩) (Kd.xB HO_375000.out BK413.out (by decide)) (fun _ hk => hk.2) (.slice Ao91 t404.length co91)) (fun _ hk => hk.2) (.slice Ao95 t407.length co95)) (fun _ hk => hk.2) (.int .i64 t410)) (fun _ hk => hk.2) (.int .i64 t411)) (fun _ h_ => h_.1)))); (case side6 => exact (Kd.zQ HO_375000.out).2.1); (case side7 => refine (Kd.qW (e := 70) (base := w.heap.size) (ok := fun k_ => (some k_ ≠ (.slice Ao10 t358.length co10 : Value).ownBlock ∧ some k_ ≠ (.slice Ao95 t407.length co95 : Value).ownBlock)) (n := x375001_2.length) (c := co88) ?_).2.2; exact (by (with_reducible repeat (first | apply Kd.qK | apply Kd.qJ | apply Kd.qL)); exact (Kd.qV (Kd.R_far (p := ⟨gb413, 3, none⟩) (Kd.R_far (p := ⟨gb413, 2, none⟩) (Kd.R_far (p := ⟨gb413, 1, none⟩) (Kd.R_far (p := ⟨gb413, 0, none⟩) (Kd.qX HO_375001.out BK413.out (by decide)) (fun _ hk => hk.2) (.slice Ao91 t404.length co91)) (fun _ hk => hk.2) (.slice Ao95 t407.length co95)) (fun _ hk => hk.2) (.int .i64 t410)) (fun _ hk => hk.2) (.int .i64 t411)) (fun _ h_ => h_.1)))); (case side8 => exact (Kd.qW HO_375001.out).2.1); rintro e w97 ⟨rfl, hb⟩; have n0_ := Aside0.mk (Kd.zZ (by (with_reducible repeat (first | apply Kd.zL | apply Kd.zM | apply Kd.zN)); exact (Kd.zX (Kd.Q_far (p := ⟨gb413, 3, none⟩) (Kd.Q_far (p := ⟨gb413, 2, none⟩) (Kd.Q_far (p := ⟨gb413, 1, none⟩) (Kd.Q_far (p := ⟨gb413, 0, none⟩) (Kd.xB HO_366000.out BK413.out (by decide)) (fun _ hk => hk.2) (.slice Ao91 t404.length co91)) (fun _ hk => hk.2) (.slice Ao95 t407.length co95)) (fun _ hk => hk.2) (.int .i64 t410)) (fun _ hk => hk.2) (.int .i64 t411)) (fun _ h_ => h_.1))) hb); have n1_ := Aside0.mk (Kd.zA (by (with_reducible repeat (first | apply Kd.qK | apply Kd.qJ | apply Kd.qL)); exact (Kd.qV (Kd.R_far (p := ⟨gb413, 3, none⟩) (Kd.R_far (p := ⟨gb413, 2, none⟩) (Kd.R_far (p := ⟨gb413, 1, none⟩) (Kd.R_far (p := ⟨gb413, 0, none⟩) (Kd.qX HO_366001.out BK413.out (by decide)) (fun _ hk => hk.2) (.slice Ao91 t404.length co91)) (fun _ hk => hk.2) (.slice Ao95 t407.length co95)) (fun _ hk => hk.2) (.int .i64 t410)) (fun _ hk => hk.2) (.int .i64 t411)) (fun _ h_ => h_.1))) hb); have n2_ := Aside0.mk (Kd.zZ (by (with_reducible repeat (first | apply Kd.zL | apply Kd.zM | apply Kd.zN)); exact (Kd.zX (Kd.Q_far (p := ⟨gb413, 3, none⟩) (Kd.Q_far (p := ⟨gb413, 2, none⟩) (Kd.Q_far (p := ⟨gb413, 1, none⟩) (Kd.Q_far (p := ⟨gb413, 0, none⟩) (Kd.xB HO_375000.out BK413.out (by decide)) (fun _ hk => hk.2) (.slice Ao91 t404.length co91)) (fun _ hk => hk.2) (.slice Ao95 t407.length co95)) (fun _ hk => hk.2) (.int .i64 t410)) (fun _ hk => hk.2) (.int .i64 t411)) (fun _ h_ => h_.1))) hb); have n3_ := Aside0.mk (Kd.zA (by (with_reducible repeat (first | apply Kd.qK | apply Kd.qJ | apply Kd.qL)); exact (Kd.qV (Kd.R_far (p := ⟨gb413, 3, none⟩) (Kd.R_far (p := ⟨gb413, 2, none⟩) (Kd.R_far (p := ⟨gb413, 1, none⟩) (Kd.R_far (p := ⟨gb413, 0, none⟩) (Kd.qX HO_375001.out BK413.out (by decide)) (fun _ hk => hk.2) (.slice Ao91 t404.length co91)) (fun _ hk => hk.2) (.slice Ao95 t407.length co95)) (fun _ hk => hk.2) (.int .i64 t410)) (fun _ hk => hk.2) (.int .i64 t411)) (fun _ h_ => h_.1))) hb); have n4_ := Aside0.mk (Kd.zA (by (with_reducible repeat (first | apply Kd.qK | apply Kd.qJ | apply Kd.qL)); exact (Kd.qV (Kd.R_far (p := ⟨gb413, 3, none⟩) (Kd.R_far (p := ⟨gb413, 2, none⟩) (Kd.R_far (p := ⟨gb413, 1, none⟩) (Kd.R_far (p := ⟨gb413, 0, none⟩) (Kd.qX HO406.out BK413.out (by decide)) (fun _ hk => hk.2) (.slice Ao91 t404.length co91)) (fun _ hk => hk.2) (.slice Ao95 t407.length co95)) (fun _ hk => hk.2) (.int .i64 t410)) (fun _ hk => hk.2) (.int .i64 t411)) (fun _ h_ => h_.1))) hb); have n5_ := Aside0.mk (Kd.zA (by (with_reducible repeat (first | apply Kd.qK | apply Kd.qJ | apply Kd.qL)); exact (Kd.qV (Kd.R_far (p := ⟨gb413, 3, none⟩) (Kd.R_far (p := ⟨gb413, 2, none⟩) (Kd.R_far (p := ⟨gb413, 1, none⟩) (Kd.R_far (p := ⟨gb413, 0, none⟩) (Kd.qX HO409.out BK413.out (by decide)) (fun _ hk => hk.2) (.slice Ao91 t404.length co91)) (fun _ hk => hk.2) (.slice Ao95 t407.length co95)) (fun _ hk => hk.2) (.int .i64 t410)) (fun _ hk => hk.2) (.int .i64 t411)) (fun _ h_ => h_.1))) hb); have n6_ := Aside0.mk (qM (g := gb365) (o := .cells #[.slice Ao8 t355.length co8, .slice Ao10 t358.length co10, .int .i64 t361, .int .i64 t362] 26 (0, 0)) (by (with_reducible repeat (first | refine qC ?_ _ | refine qF ?_ | refine qA ?_ _)); refine qU ?_ NB365_413.out _; (with_reducible repeat (first | refine qC ?_ _ | refine qF ?_ | refine qA ?_ _)); refine qU ?_ NB365_413.out _; (with_reducible repeat (first | refine qC ?_ _ | refine qF ?_ | refine qA ?_ _)); refine qU ?_ NB365_413.out _; (with_reducible repeat (first | refine qC ?_ _ | refine qF ?_ | refine qA ?_ _)); refine qU ?_ NB365_413.out _; (with_reducible repeat (first | refine qC ?_ _ | refine qF ?_ | refine qA ?_ _)); exact BK365.out) hb); have n7_ := Aside0.mk (qM (g := gb374) (o := .cells #[.slice Ao87 x375000_2.length co87, .slice Ao88 x375001_2.length co88, .int .i64 x375002_2, .int .i64 x375003_2] 26 (0, 0)) (by (with_reducible repeat (first | refine qC ?_ _ | refine qF ?_ | refine qA ?_ _)); refine qU ?_ NB374_413.out _; (with_reducible repeat (first | refine qC ?_ _ | refine qF ?_ | refine qA ?_ _)); refine qU ?_ NB374_413.out _; (with_reducible repeat (first | refine qC ?_ _ | refine qF ?_ | refine qA ?_ _)); refine qU ?_ NB374_413.out _; (with_reducible repeat (first | refine qC ?_ _ | refine qF ?_ | refine qA ?_ _)); refine qU ?_ NB374_413.out _; (with_reducible repeat (first | refine qC ?_ _ | refine qF ?_ | refine qA ?_ _)); exact BK374.out) hb); have n8_ := Aside0.mk (qM (g := gb413) (o := .cells #[.slice Ao91 t404.length co91, .slice Ao95 t407.length co95, .int .i64 t410, .int .i64 t411] 26 (0, 0)) (by (with_reducible repeat (first | refine qC ?_ _ | refine qF ?_ | refine qA ?_ _)); refine qR (cs := #[.slice Ao91 t404.length co91, .slice Ao95 t407.length co95, .int .i64 t410, .int .i64 0]) ?_ 3 _ rfl; (with_reducible repeat (first | refine qC ?_ _ | refine qF ?_ | refine qA ?_ _)); refine qR (cs := #[.slice Ao91 t404.length co91, .slice Ao95 t407.length co95, .int .i64 0, .int .i64 0]) ?_ 2 _ rfl; (with_reducible repeat (first | refine qC ?_ _ | refine qF ?_ | refine qA ?_ _)); refine qR (cs := #[.slice Ao91 t404.length co91, .slice none 0 0, .int .i64 0, .int .i64 0]) ?_ 1 _ rfl; (with_reducible repeat (first | refine qC ?_ _ | refine qF ?_ | refine qA ?_ _)); refine qR (cs := #[.slice none 0 0, .slice none 0 0, .int .i64 0, .int .i64 0]) ?_ 0 _ rfl; (with_reducible repeat (first | refine qC ?_ _ | refine qF ?_ | refine qA ?_ _)); exact BK413.out) hb); have n9_ := Aside0.mk (qO (by repeat (first | (with_reducible first | exact HB.out | apply qI | apply qD | apply qH | refine qG ?_ GE365.out | refine qG ?_ GE374.out | refine qG ?_ GE413.out) | exact HB.out)) hb); clear HO_366000; clear HO_366001; clear HO_375000; clear HO_375001; clear HO406; clear HO409; clear BK365; clear BK374; clear BK413; clear HB; have HO_366000 := n0_; have HO_366001 := n1_; have HO_375000 := n2_; have HO_375001 := n3_; have HO406 := n4_; have HO409 := n5_; have BK365 := n6_; have BK374 := n7_; have BK413 := n8_; have HB := n9_; clear n0_ n1_ n2_ n3_ n4_ n5_ n6_ n7_ n8_ n9_; (try clear hb); (try clear hb2); (try clear hk); (try clear hi); have hcz98_0 : w97.cell? ⟨gb374, 0, none⟩ = some (.slice Ao87 x375000_2.length co87) := (qB BK374.out 0).trans rfl; have hcz98_1 : w97.cell? ⟨gb374, 1, none⟩ = some (.slice Ao88 x375001_2.length co88) := (qB BK374.out 1).trans rfl; have hcz98_2 : w97.cell? ⟨gb374, 2, none⟩ = some (.int .i64 x375002_2) := (qB BK374.out 2).trans rfl; have hcz98_3 : w97.cell? ⟨gb374, 3, none⟩ = some (.int .i64 x375003_2) := (qB BK374.out 3).trans rfl; have hfz98_0 := qE BK374.out 0; have hfz98_1 := qE BK374.out 1; have hfz98_2 := qE BK374.out 2; have hfz98_3 := qE BK374.out 3; have hcz99_0 : w97.cell? ⟨gb365, 0, none⟩ = some (.slice Ao8 t355.length co8) := (qB BK365.out 0).trans rfl; have hcz99_1 : w97.cell? ⟨gb365, 1, none⟩ = some (.slice Ao10 t358.length co10) := (qB BK365.out 1).trans rfl; have hcz99_2 : w97.cell? ⟨gb365, 2, none⟩ = some (.int .i64 t361) := (qB BK365.out 2).trans rfl; have hcz99_3 : w97.cell? ⟨gb365, 3, none⟩ = some (.int .i64 t362) := (qB BK365.out 3).trans rfl; have hfz99_0 := qE BK365.out 0; have hfz99_1 := qE BK365.out 1; have hfz99_2 := qE BK365.out 2; have hfz99_3 := qE BK365.out 3))
                    go_ret
                    exact ⟨by first | rfl | (simp [errW_none, errW_some] <;> rfl) | (simp [*, errW_none, errW_some] <;> rfl), by repeat (first | (with_reducible first | exact HB.out | apply qI | apply qD | apply qH | refine qG ?_ GE365.out | refine qG ?_ GE374.out | refine qG ?_ GE413.out) | exact HB.out)⟩
                  · replace c84 := Bool.eq_false_iff.mpr c84
                    subst c84
                    have H1 : (some false) = some true := by rw [if_neg (show ¬ (false = true) by decide)] at H; exact H
                    clear H
                    have H := H1
                    clear H1
                    exact absurd H (by simp)

/-- THE ONE PURE STATEMENT of laws_FnDiskRoom: yours. -/
def laws_FnDiskRoom.Pure : Prop := ∀ (l0 : List Int), l0.length ≤ maxLen → l0.length * 1 ≤ 140737488351232 → (∀ x ∈ l0, (Lit.int .u8 x).wf = true) → ∃ k, laws_FnDiskRoom.f k l0 = some true
theorem laws_FnDiskRoom.walk (P : laws_FnDiskRoom.Pure) (a0 : Option Addr) (len0 cap0 : Nat) (z0 : List Int) (w : World) (w0 : (a0 = none ∧ len0 = 0 ∧ cap0 = 0 ∧ z0 = []) ∨ ∃ x, a0 = some x ∧ len0 ≤ cap0 ∧ cap0 ≤ maxLen ∧ z0.length = cap0 ∧ (∀ i, i < z0.length → w.cell? (x.add i) = some (.int .u8 (z0.getD i 0))) ∧ ∀ n ∈ z0, (Lit.int .u8 n).wf = true) (y0 : len0 * 1 ≤ 140737488351232) :
    Calls Try.prog 3 #[.slice a0 len0 cap0] w fun e w' => e = .returned (.bool true) ∧ Below w.heap.size w w' := by
  obtain ⟨l0, rfl, hr0, hm0, hw0, hc0⟩ := ReadsInt.ofRowC w0
  obtain ⟨k, h⟩ := P l0 hm0 y0 hw0
  refine (laws_FnDiskRoom.calls k _ _ l0 w (Kd.C_of_reads (d := (0 : Int)) (h1 := fun _ => rfl) hr0) hc0 h).mono ?_
  rintro e w' ⟨rfl, hd⟩
  exact ⟨rfl, hd⟩

end Go.Proofs.Ytepihebkdnmppaa.A
