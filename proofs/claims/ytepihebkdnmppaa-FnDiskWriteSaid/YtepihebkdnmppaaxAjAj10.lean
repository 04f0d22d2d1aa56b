/- Walks of the seat's functions, written by a program of this session (xprint.py) with the kit's printer: each call comes to just what its Lean function says. -/
import Derived.Test.YtepihebkdnmppaaxAjAj0
import Derived.Test.YtepihebkdnmppaaxAjAj2
import Derived.Test.YtepihebkdnmppaaxAjAj3
import Derived.Test.YtepihebkdnmppaaxAjAj8
import Derived.Test.YtepihebkdnmppaaxAjAj9
namespace Go.Proofs.Ytepihebkdnmppaa.Aj
open Go.RowKit Go.Proofs.YtepihebkdnmppaaV.PrintWords Go.Proofs.YtepihebkdnmppaaV.PrintLast Go.Proofs.YtepihebkdnmppaaV.PrintMore
attribute [local go_sem] xH min2_int max_two min_two xA xB max_four min_four   -- for this text's walks alone
attribute [local go_sem high] World.zO
set_option linter.unusedVariables false
set_option linter.unusedSimpArgs false

/-! ### laws_FnDiskWrite: function 5 -/
mutual
def laws_FnDiskWrite.j0 : Nat → Int → ByteArray → Bool → Bool → Bool → List ByteArray → List (S70) → Int → Int → List ByteArray → List (S70) → Int → Int → List ByteArray → List (S70) → Int → Int → Option (Bool)
  | 0, _, _, _, _, _, _, _, _, _, _, _, _, _, _, _, _, _ => none
  | k + 1, x4, x5, x7, x9, x46, x363000, x363001, x363002, x363003, x373000, x373001, x373002, x373003, x383000, x383001, x383002, x383003 => if x46 = true then (if (x7 == x9) = true then ((laws_jtDisk.f k x373000 x373001 x373002 x373003 x383000 x383001 x383002 x383003).bind fun t384 => (some t384)) else (some false)) else (if x363003 = 0 then ((laws_jtDisk.f k x373000 x373001 x373002 x373003 x363000 x363001 x363002 x363003).bind fun t385 => (some t385)) else (laws_FnDiskWrite.l0 k x4 x5 0 x363000 x363001 x363002 x363003 x373000 x373001 x373002 x373003))
def laws_FnDiskWrite.l0 : Nat → Int → ByteArray → Int → List ByteArray → List (S70) → Int → Int → List ByteArray → List (S70) → Int → Int → Option (Bool)
  | 0, _, _, _, _, _, _, _, _, _, _, _ => none
  | k + 1, x4, x5, x10, x363000, x363001, x363002, x363003, x373000, x373001, x373002, x373003 => if x10 < 42 then (if x10 = x4 then ((impl_DiskRead.f x373000 x373001 x373002 x373003 x10).bind fun t388 => (if t388.toList = x5.toList then (laws_FnDiskWrite.l0 k x4 x5 (wrap64 (x10 + 1)) x363000 x363001 x363002 x363003 x373000 x373001 x373002 x373003) else (some false))) else ((impl_DiskRead.f x373000 x373001 x373002 x373003 x10).bind fun t389 => ((impl_DiskRead.f x363000 x363001 x363002 x363003 x10).bind fun t390 => (if t389.toList = t390.toList then (laws_FnDiskWrite.l0 k x4 x5 (wrap64 (x10 + 1)) x363000 x363001 x363002 x363003 x373000 x373001 x373002 x373003) else (some false))))) else ((impl_DiskOk.f x373000 x373001 x373002 x373003).bind fun t386 => (if t386 = true then ((laws_jtTexts.f k x373000 x363000).bind fun t387 => (some t387)) else (some false)))
end
def laws_FnDiskWrite.f (k : Nat) (l0 : List Int) : Option (Bool) := if (l0.length : Int) > 1048576 then (some true) else ((spec_DrawDiskWrite.f k l0).bind fun bt352 => ((impl_DiskWrite.f bt352.1 bt352.2.1 bt352.2.2.1 bt352.2.2.2.1 bt352.2.2.2.2.1 bt352.2.2.2.2.2).bind fun bt363 => ((spec_DiskWrite.f k bt352.1 bt352.2.1 bt352.2.2.1 bt352.2.2.2.1 bt352.2.2.2.2.1 bt352.2.2.2.2.2).bind fun bt373 => (if (bt363.2.2.2.2 != bt373.2.2.2.2) = true then (laws_FnDiskWrite.j0 k bt352.2.2.2.2.1 bt352.2.2.2.2.2 bt363.2.2.2.2 bt373.2.2.2.2 true bt352.1 bt352.2.1 bt352.2.2.1 bt352.2.2.2.1 bt363.1 bt363.2.1 bt363.2.2.1 bt363.2.2.2.1 bt373.1 bt373.2.1 bt373.2.2.1 bt373.2.2.2.1) else ((laws_jtDisk.f k bt363.1 bt363.2.1 bt363.2.2.1 bt363.2.2.2.1 bt373.1 bt373.2.1 bt373.2.2.1 bt373.2.2.2.1).bind fun t383 => (if t383 = true then (laws_FnDiskWrite.j0 k bt352.2.2.2.2.1 bt352.2.2.2.2.2 bt363.2.2.2.2 bt373.2.2.2.2 (!bt363.2.2.2.2) bt352.1 bt352.2.1 bt352.2.2.1 bt352.2.2.2.1 bt363.1 bt363.2.1 bt363.2.2.1 bt363.2.2.2.1 bt373.1 bt373.2.1 bt373.2.2.1 bt373.2.2.2.1) else (laws_FnDiskWrite.j0 k bt352.2.2.2.2.1 bt352.2.2.2.2.2 bt363.2.2.2.2 bt373.2.2.2.2 true bt352.1 bt352.2.1 bt352.2.2.1 bt352.2.2.2.1 bt363.1 bt363.2.1 bt363.2.2.1 bt363.2.2.2.1 bt373.1 bt373.2.1 bt373.2.2.1 bt373.2.2.2.1)))))))
theorem laws_FnDiskWrite.mono_l : ∀ k, (∀ y0 y1 y2 y3 y4 y5 y6 y7 y8 y9 y10 y11 y12 y13 y14 y15 y16, LeO (laws_FnDiskWrite.j0 k y0 y1 y2 y3 y4 y5 y6 y7 y8 y9 y10 y11 y12 y13 y14 y15 y16) (laws_FnDiskWrite.j0 (k + 1) y0 y1 y2 y3 y4 y5 y6 y7 y8 y9 y10 y11 y12 y13 y14 y15 y16)) ∧ (∀ y0 y1 y2 y3 y4 y5 y6 y7 y8 y9 y10, LeO (laws_FnDiskWrite.l0 k y0 y1 y2 y3 y4 y5 y6 y7 y8 y9 y10) (laws_FnDiskWrite.l0 (k + 1) y0 y1 y2 y3 y4 y5 y6 y7 y8 y9 y10))
  | 0 => ⟨fun _ _ _ _ _ _ _ _ _ _ _ _ _ _ _ _ _ r h => by simp [laws_FnDiskWrite.j0] at h, fun _ _ _ _ _ _ _ _ _ _ _ r h => by simp [laws_FnDiskWrite.l0] at h⟩
  | k + 1 => by
    obtain ⟨ih0, ih1⟩ := laws_FnDiskWrite.mono_l k
    refine ⟨?_, ?_⟩
    · intro y0 y1 y2 y3 y4 y5 y6 y7 y8 y9 y10 y11 y12 y13 y14 y15 y16
      unfold laws_FnDiskWrite.j0
      repeat' first
      | (with_reducible exact ih0 _ _ _ _ _ _ _ _ _ _ _ _ _ _ _ _ _)
      | (with_reducible exact ih1 _ _ _ _ _ _ _ _ _ _ _)
      | (with_reducible exact laws_jtDisk.mono _ _ _ _ _ _ _ _ _)
      | (with_reducible exact laws_jtTexts.mono _ _ _)
      | (with_reducible exact spec_DiskWrite.mono _ _ _ _ _ _ _)
      | (with_reducible exact spec_DrawDiskWrite.mono _ _)
      | (with_reducible exact LeO.refl _)
      | (with_reducible exact LeO.none _)
      | (with_reducible refine LeO.ite ?_ ?_)
      | (with_reducible refine LeO.bind ?_ (fun _ => ?_))
      | exact ih0 _ _ _ _ _ _ _ _ _ _ _ _ _ _ _ _ _
      | exact ih1 _ _ _ _ _ _ _ _ _ _ _
      | exact laws_jtDisk.mono _ _ _ _ _ _ _ _ _
      | exact laws_jtTexts.mono _ _ _
      | exact spec_DiskWrite.mono _ _ _ _ _ _ _
      | exact spec_DrawDiskWrite.mono _ _
      | exact LeO.none _
      | refine LeO.ite ?_ ?_
      | refine LeO.bind ?_ (fun _ => ?_)
    · intro y0 y1 y2 y3 y4 y5 y6 y7 y8 y9 y10
      unfold laws_FnDiskWrite.l0
      repeat' first
      | (with_reducible exact ih0 _ _ _ _ _ _ _ _ _ _ _ _ _ _ _ _ _)
      | (with_reducible exact ih1 _ _ _ _ _ _ _ _ _ _ _)
      | (with_reducible exact laws_jtDisk.mono _ _ _ _ _ _ _ _ _)
      | (with_reducible exact laws_jtTexts.mono _ _ _)
      | (with_reducible exact spec_DiskWrite.mono _ _ _ _ _ _ _)
      | (with_reducible exact spec_DrawDiskWrite.mono _ _)
      | (with_reducible exact LeO.refl _)
      | (with_reducible exact LeO.none _)
      | (with_reducible refine LeO.ite ?_ ?_)
      | (with_reducible refine LeO.bind ?_ (fun _ => ?_))
      | exact ih0 _ _ _ _ _ _ _ _ _ _ _ _ _ _ _ _ _
      | exact ih1 _ _ _ _ _ _ _ _ _ _ _
      | exact laws_jtDisk.mono _ _ _ _ _ _ _ _ _
      | exact laws_jtTexts.mono _ _ _
      | exact spec_DiskWrite.mono _ _ _ _ _ _ _
      | exact spec_DrawDiskWrite.mono _ _
      | exact LeO.none _
      | refine LeO.ite ?_ ?_
      | refine LeO.bind ?_ (fun _ => ?_)
theorem laws_FnDiskWrite.mono : ∀ a0 k, LeO (laws_FnDiskWrite.f k a0) (laws_FnDiskWrite.f (k + 1) a0) := by
  intro a0 k
  obtain ⟨ih0, ih1⟩ := laws_FnDiskWrite.mono_l k
  unfold laws_FnDiskWrite.f
  repeat' first
      | (with_reducible exact ih0 _ _ _ _ _ _ _ _ _ _ _ _ _ _ _ _ _)
      | (with_reducible exact ih1 _ _ _ _ _ _ _ _ _ _ _)
      | (with_reducible exact laws_jtDisk.mono _ _ _ _ _ _ _ _ _)
      | (with_reducible exact laws_jtTexts.mono _ _ _)
      | (with_reducible exact spec_DiskWrite.mono _ _ _ _ _ _ _)
      | (with_reducible exact spec_DrawDiskWrite.mono _ _)
      | (with_reducible exact LeO.refl _)
      | (with_reducible exact LeO.none _)
      | (with_reducible refine LeO.ite ?_ ?_)
      | (with_reducible refine LeO.bind ?_ (fun _ => ?_))
      | exact ih0 _ _ _ _ _ _ _ _ _ _ _ _ _ _ _ _ _
      | exact ih1 _ _ _ _ _ _ _ _ _ _ _
      | exact laws_jtDisk.mono _ _ _ _ _ _ _ _ _
      | exact laws_jtTexts.mono _ _ _
      | exact spec_DiskWrite.mono _ _ _ _ _ _ _
      | exact spec_DrawDiskWrite.mono _ _
      | exact LeO.none _
      | refine LeO.ite ?_ ?_
      | refine LeO.bind ?_ (fun _ => ?_)
def laws_FnDiskWrite.T13 : Bool × List (List Nat × List Nat) := (true, [([], []), ([], []), ([0, 1], [0, 1]), ([2], [2]), ([3], [3]), ([3], [3]), ([4, 5, 3, 3], [3, 4, 5]), ([3], [3]), ([6, 7, 3], [3, 6, 7]), ([3, 8], [3, 8]), ([9, 6], [9]), ([10], [10]), ([10], [10]), ([11, 12, 10], [10, 11, 12]), ([13, 10, 10], [10, 13]), ([14], [14]), ([14], [14]), ([15, 16, 14, 14], [14, 15, 16]), ([14], [14]), ([14], [14]), ([18, 19, 17, 14], [14, 18, 19]), ([17, 20, 14], [14, 17, 20]), ([14, 21, 10], [10, 14, 21]), ([10, 22], [10, 22])])
def laws_FnDiskWrite.B13 : List Nat := [0, 0, 3, 7, 15, 15, 63, 15, 255, 511, 1023, 2047, 2047, 8191, 16383, 32767, 32767, 131071, 32767, 32767, 1048575, 2097151, 4194303, 8388607]
theorem laws_FnDiskWrite.tab13 : rtab .any (opsOf Try.f5 13) = laws_FnDiskWrite.T13 := by kernel_rfl
theorem laws_FnDiskWrite.bits13 : waitsOk laws_FnDiskWrite.T13.2 laws_FnDiskWrite.B13 = true := by kernel_rfl
set_option maxHeartbeats 8000000 in
set_option maxRecDepth 100000 in
theorem laws_FnDiskWrite.calls (k : Nat) (A0 : Option Addr) (c0 : Nat) (l0 : List Int) (w : World) (hr0 : Kd.C (Kd.int .u8) w A0 l0.length l0) (hc0 : l0.length ≤ c0) (h : laws_FnDiskWrite.f k l0 = some true) :
    Calls Try.prog 5 #[.slice A0 l0.length c0] w fun e w' => e = .returned (.bool true) ∧ Below w.heap.size w w' := by
  have hu26 := Try.underlying26
  have HR0 := Aside0.mk hr0
  have HC0 := Aside0.mk hc0
  clear hr0 hc0
  have HB := Aside0.mk (Below.refl w.heap.size w)
  have H : (if (l0.length : Int) > 1048576 then (some true) else ((spec_DrawDiskWrite.f k l0).bind fun bt352 => ((impl_DiskWrite.f bt352.1 bt352.2.1 bt352.2.2.1 bt352.2.2.2.1 bt352.2.2.2.2.1 bt352.2.2.2.2.2).bind fun bt363 => ((spec_DiskWrite.f k bt352.1 bt352.2.1 bt352.2.2.1 bt352.2.2.2.1 bt352.2.2.2.2.1 bt352.2.2.2.2.2).bind fun bt373 => (if (bt363.2.2.2.2 != bt373.2.2.2.2) = true then (laws_FnDiskWrite.j0 k bt352.2.2.2.2.1 bt352.2.2.2.2.2 bt363.2.2.2.2 bt373.2.2.2.2 true bt352.1 bt352.2.1 bt352.2.2.1 bt352.2.2.2.1 bt363.1 bt363.2.1 bt363.2.2.1 bt363.2.2.2.1 bt373.1 bt373.2.1 bt373.2.2.1 bt373.2.2.2.1) else ((laws_jtDisk.f k bt363.1 bt363.2.1 bt363.2.2.1 bt363.2.2.2.1 bt373.1 bt373.2.1 bt373.2.2.1 bt373.2.2.2.1).bind fun t383 => (if t383 = true then (laws_FnDiskWrite.j0 k bt352.2.2.2.2.1 bt352.2.2.2.2.2 bt363.2.2.2.2 bt373.2.2.2.2 (!bt363.2.2.2.2) bt352.1 bt352.2.1 bt352.2.2.1 bt352.2.2.2.1 bt363.1 bt363.2.1 bt363.2.2.1 bt363.2.2.2.1 bt373.1 bt373.2.1 bt373.2.2.1 bt373.2.2.2.1) else (laws_FnDiskWrite.j0 k bt352.2.2.2.2.1 bt352.2.2.2.2.2 bt363.2.2.2.2 bt373.2.2.2.2 true bt352.1 bt352.2.1 bt352.2.2.1 bt352.2.2.2.1 bt363.1 bt363.2.1 bt363.2.2.1 bt363.2.2.2.1 bt373.1 bt373.2.1 bt373.2.2.1 bt373.2.2.2.1)))))))) = some true := h
  clear h
  by_cases c2 : (l0.length : Int) > 1048576
  · rw [if_pos c2] at H
    have c2b0 : decide (1048576 < (l0.length : Int)) = true := decide_eq_true c2
    have c2b1 : decide (1048576 < l0.length) = true := decide_eq_true (by omega)
    clear c2
    have HT_ : true = true := Option.some.inj H
    clear H
    go_enter Try.func5, Try.ntmps5
    go_wp2
    go_ret
    exact ⟨by first | rfl | (simp [errW_none, errW_some] <;> rfl) | (simp [*, errW_none, errW_some] <;> rfl), by repeat (first | (with_reducible first | exact HB.out | apply qG | apply qD | apply qF) | exact HB.out)⟩
  · rw [if_neg c2] at H
    have c2b0 : decide (1048576 < (l0.length : Int)) = false := decide_eq_false c2
    have c2b1 : decide (1048576 < l0.length) = false := decide_eq_false (by omega)
    clear c2
    replace H := Option.bind_eq_some_iff.mp H
    obtain ⟨⟨t352, t355, t358, t359, t360, t361⟩, A30, H⟩ := H
    replace H : ((impl_DiskWrite.f t352 t355 t358 t359 t360 t361).bind fun bt363 => ((spec_DiskWrite.f k t352 t355 t358 t359 t360 t361).bind fun bt373 => (if (bt363.2.2.2.2 != bt373.2.2.2.2) = true then (laws_FnDiskWrite.j0 k t360 t361 bt363.2.2.2.2 bt373.2.2.2.2 true t352 t355 t358 t359 bt363.1 bt363.2.1 bt363.2.2.1 bt363.2.2.2.1 bt373.1 bt373.2.1 bt373.2.2.1 bt373.2.2.2.1) else ((laws_jtDisk.f k bt363.1 bt363.2.1 bt363.2.2.1 bt363.2.2.2.1 bt373.1 bt373.2.1 bt373.2.2.1 bt373.2.2.2.1).bind fun t383 => (if t383 = true then (laws_FnDiskWrite.j0 k t360 t361 bt363.2.2.2.2 bt373.2.2.2.2 (!bt363.2.2.2.2) t352 t355 t358 t359 bt363.1 bt363.2.1 bt363.2.2.1 bt363.2.2.2.1 bt373.1 bt373.2.1 bt373.2.2.1 bt373.2.2.2.1) else (laws_FnDiskWrite.j0 k t360 t361 bt363.2.2.2.2 bt373.2.2.2.2 true t352 t355 t358 t359 bt363.1 bt363.2.1 bt363.2.2.1 bt363.2.2.2.1 bt373.1 bt373.2.1 bt373.2.2.1 bt373.2.2.2.1)))))) = some true := H
    have A3 := Aside0.mk A30
    clear A30
    replace H := Option.bind_eq_some_iff.mp H
    obtain ⟨⟨t363, t366, t369, t370, t371⟩, A40, H⟩ := H
    replace H : ((spec_DiskWrite.f k t352 t355 t358 t359 t360 t361).bind fun bt373 => (if (t371 != bt373.2.2.2.2) = true then (laws_FnDiskWrite.j0 k t360 t361 t371 bt373.2.2.2.2 true t352 t355 t358 t359 t363 t366 t369 t370 bt373.1 bt373.2.1 bt373.2.2.1 bt373.2.2.2.1) else ((laws_jtDisk.f k t363 t366 t369 t370 bt373.1 bt373.2.1 bt373.2.2.1 bt373.2.2.2.1).bind fun t383 => (if t383 = true then (laws_FnDiskWrite.j0 k t360 t361 t371 bt373.2.2.2.2 (!t371) t352 t355 t358 t359 t363 t366 t369 t370 bt373.1 bt373.2.1 bt373.2.2.1 bt373.2.2.2.1) else (laws_FnDiskWrite.j0 k t360 t361 t371 bt373.2.2.2.2 true t352 t355 t358 t359 t363 t366 t369 t370 bt373.1 bt373.2.1 bt373.2.2.1 bt373.2.2.2.1))))) = some true := H
    have A4 := Aside0.mk A40
    clear A40
    replace H := Option.bind_eq_some_iff.mp H
    obtain ⟨⟨t373, t376, t379, t380, t381⟩, A50, H⟩ := H
    replace H : (if (t371 != t381) = true then (laws_FnDiskWrite.j0 k t360 t361 t371 t381 true t352 t355 t358 t359 t363 t366 t369 t370 t373 t376 t379 t380) else ((laws_jtDisk.f k t363 t366 t369 t370 t373 t376 t379 t380).bind fun t383 => (if t383 = true then (laws_FnDiskWrite.j0 k t360 t361 t371 t381 (!t371) t352 t355 t358 t359 t363 t366 t369 t370 t373 t376 t379 t380) else (laws_FnDiskWrite.j0 k t360 t361 t371 t381 true t352 t355 t358 t359 t363 t366 t369 t370 t373 t376 t379 t380)))) = some true := H
    have A5 := Aside0.mk A50
    clear A50
    have HC6 := Aside0.mk H
    clear H
    go_enter Try.func5, Try.ntmps5
    go_upto_region 6 with (first | ((with_reducible refine qX (f := 17) rfl ?_); refine zM (some 16) rfl rfl Try.func17 (by kernel_rfl) rfl #[.slice A0 l0.length c0] rfl (by (try simp only [List.map_toArray, List.map_cons, List.map_nil]); first | done | rfl | (simp only [List.length_drop, List.length_take]; rfl)) ?_; (with_reducible refine (spec_DrawDiskWrite.calls k _ _ l0 t352 t355 t358 t359 t360 t361 _ ?side1 ?side2 A3.out).mono ?_); (case side1 => repeat (first | exact HR0.out | (with_reducible refine Kd.zF ?_ _) | (with_reducible refine Kd.zG ?_ _) | (with_reducible refine Kd.zL ?_))); (case side2 => exact HC0.out); rintro e w7 ⟨v353, v356, rfl, ho0, ho1, hb⟩; refine ⟨_, rfl, ?_⟩; have n0_ := Aside0.mk (Kd.Q_lower ho0 (qP (by repeat (first | (with_reducible first | exact HB.out | apply qG | apply qD | apply qF) | exact HB.out)))); have n1_ := Aside0.mk (Kd.zJ ho1 (qP (by repeat (first | (with_reducible first | exact HB.out | apply qG | apply qD | apply qF) | exact HB.out)))); have n2_ := Aside0.mk (qQ (by repeat (first | (with_reducible first | exact HB.out | apply qG | apply qD | apply qF) | exact HB.out)) hb); clear HB; have HO354 := n0_; have HO357 := n1_; have HB := n2_; clear n0_ n1_ n2_; (try clear hb); (try clear hb2); (try clear hk); (try clear hi); (try clear ho0); (try clear ho1)) | ((with_reducible refine qZ (N := 3) rfl ?_); refine qY ?hg (N := 3) ?hd (cs := #[.slice none 0 0, .slice none 0 0, .int .i64 0, .int .i64 0]) (t := 26) ?hr ?_; (case hd => rfl); (case hg => rfl); (case hr => first | (go_simp; done) | (go_simp; rfl)); intro gb362 hg w8 hbox hb; have n0_ := Aside0.mk (Kd.zR (qw_ HO354.out) hb); have n1_ := Aside0.mk (Kd.zB (rw_ HO357.out) hb); have n2_ := Aside0.mk (qQ (by repeat (first | (with_reducible first | exact HB.out | apply qG | apply qD | apply qF) | exact HB.out)) hb); have n3_ := Aside0.mk (hbox); have n4_ := Aside0.mk ((by rw [hg]; exact (qP (by repeat (first | (with_reducible first | exact HB.out | apply qG | apply qD | apply qF) | exact HB.out))) : w.heap.size ≤ gb362)); have n5_ := Aside0.mk ((by rw [hg]; exact (qP (by repeat (first | (with_reducible first | exact HB.out | apply qG | apply qD | apply qF) | exact HB.out))) : w.heap.size ≤ gb362)); clear HO354; clear HO357; clear HB; have HO354 := n0_; have HO357 := n1_; have HB := n2_; have BK362 := n3_; have GW362 := n4_; have GE362 := n5_; clear n0_ n1_ n2_ n3_ n4_ n5_; clear hb hbox hg; obtain ⟨Ao9, co9, eo9, _⟩ := Kd.Q_slice HO354.out; subst eo9; have hcz10_0 : w8.cell? ⟨gb362, 0, none⟩ = some (.slice none 0 0) := (qA BK362.out 0).trans rfl; have hcz10_1 : w8.cell? ⟨gb362, 1, none⟩ = some (.slice none 0 0) := (qA BK362.out 1).trans rfl; have hcz10_2 : w8.cell? ⟨gb362, 2, none⟩ = some (.int .i64 0) := (qA BK362.out 2).trans rfl; have hcz10_3 : w8.cell? ⟨gb362, 3, none⟩ = some (.int .i64 0) := (qA BK362.out 3).trans rfl; have hfz10_0 := qB BK362.out 0; have hfz10_1 := qB BK362.out 1; have hfz10_2 := qB BK362.out 2; have hfz10_3 := qB BK362.out 3; obtain ⟨Ao11, co11, eo11⟩ := Kd.zD HO357.out; subst eo11) | ((with_reducible refine qX (f := 16) rfl ?_); refine zM (some 24) rfl rfl Try.func16 (by kernel_rfl) rfl #[.agg #[.slice Ao9 t352.length co9, .slice Ao11 t355.length co11, .int .i64 t358, .int .i64 t359], .int .i64 t360, .string t361] rfl (by (try simp only [List.map_toArray, List.map_cons, List.map_nil]); first | done | rfl | (simp only [List.length_drop, List.length_take]; rfl)) ?_; (with_reducible refine (impl_DiskWrite.calls _ _ t352 _ _ t355 t358 t359 t360 t361 t363 t366 t369 t370 t371 _ ?side1 ?side2 ?side3 ?side4 A4.out).mono ?_); (case side1 => refine (Kd.zQ (e := 9) (base := w.heap.size) (ok := fun k_ => True) (n := t352.length) (c := co9) ?_).2.2; exact (by (with_reducible repeat (first | apply Kd.zS | apply Kd.zT | apply Kd.zP)); exact (Kd.zU (Kd.Q_far (p := ⟨gb362, 3, none⟩) (Kd.Q_far (p := ⟨gb362, 2, none⟩) (Kd.Q_far (p := ⟨gb362, 1, none⟩) (Kd.Q_far (p := ⟨gb362, 0, none⟩) (Kd.zZ HO354.out BK362.out (by decide)) (fun _ hk => hk.2) (.slice Ao9 t352.length co9)) (fun _ hk => hk.2) (.slice Ao11 t355.length co11)) (fun _ hk => hk.2) (.int .i64 t358)) (fun _ hk => hk.2) (.int .i64 t359)) (fun _ h_ => h_.1)))); (case side2 => exact (Kd.zQ HO354.out).2.1); (case side3 => refine (Kd.zC (e := 70) (base := w.heap.size) (ok := fun k_ => True) (n := t355.length) (c := co11) ?_).2.2; exact (by (with_reducible repeat (first | apply Kd.qU | apply Kd.qT | apply Kd.qV)); exact (Kd.qS (Kd.R_far (p := ⟨gb362, 3, none⟩) (Kd.R_far (p := ⟨gb362, 2, none⟩) (Kd.R_far (p := ⟨gb362, 1, none⟩) (Kd.R_far (p := ⟨gb362, 0, none⟩) (Kd.qW HO357.out BK362.out (by decide)) (fun _ hk => hk.2) (.slice Ao9 t352.length co9)) (fun _ hk => hk.2) (.slice Ao11 t355.length co11)) (fun _ hk => hk.2) (.int .i64 t358)) (fun _ hk => hk.2) (.int .i64 t359)) (fun _ h_ => h_.1)))); (case side4 => exact (Kd.zC HO357.out).2.1); rintro e w12 ⟨v364, v367, rfl, ho0, ho1, hb⟩; refine ⟨_, rfl, ?_⟩; have n0_ := Aside0.mk (Kd.Q_elder' (by (with_reducible repeat (first | apply Kd.zS | apply Kd.zT | apply Kd.zP)); exact (Kd.zU (Kd.Q_far (p := ⟨gb362, 3, none⟩) (Kd.Q_far (p := ⟨gb362, 2, none⟩) (Kd.Q_far (p := ⟨gb362, 1, none⟩) (Kd.Q_far (p := ⟨gb362, 0, none⟩) (Kd.zZ HO354.out BK362.out (by decide)) (fun _ hk => hk.2) (.slice Ao9 t352.length co9)) (fun _ hk => hk.2) (.slice Ao11 t355.length co11)) (fun _ hk => hk.2) (.int .i64 t358)) (fun _ hk => hk.2) (.int .i64 t359)) (fun _ h_ => h_.1))) (Kd.R_base ho0) hb); have n1_ := Aside0.mk (Kd.xG (by (with_reducible repeat (first | apply Kd.qU | apply Kd.qT | apply Kd.qV)); exact (Kd.qS (Kd.R_far (p := ⟨gb362, 3, none⟩) (Kd.R_far (p := ⟨gb362, 2, none⟩) (Kd.R_far (p := ⟨gb362, 1, none⟩) (Kd.R_far (p := ⟨gb362, 0, none⟩) (Kd.qW HO357.out BK362.out (by decide)) (fun _ hk => hk.2) (.slice Ao9 t352.length co9)) (fun _ hk => hk.2) (.slice Ao11 t355.length co11)) (fun _ hk => hk.2) (.int .i64 t358)) (fun _ hk => hk.2) (.int .i64 t359)) (fun _ h_ => h_.1))) (Kd.R_base ho1) hb); have n2_ := Aside0.mk (Kd.zJ (Kd.R_new' ho0 (Kd.Q_lt (by (with_reducible repeat (first | apply Kd.zS | apply Kd.zT | apply Kd.zP)); exact (Kd.zU (Kd.Q_far (p := ⟨gb362, 3, none⟩) (Kd.Q_far (p := ⟨gb362, 2, none⟩) (Kd.Q_far (p := ⟨gb362, 1, none⟩) (Kd.Q_far (p := ⟨gb362, 0, none⟩) (Kd.zZ HO354.out BK362.out (by decide)) (fun _ hk => hk.2) (.slice Ao9 t352.length co9)) (fun _ hk => hk.2) (.slice Ao11 t355.length co11)) (fun _ hk => hk.2) (.int .i64 t358)) (fun _ hk => hk.2) (.int .i64 t359)) (fun _ h_ => h_.1))))) (qP (by repeat (first | (with_reducible first | exact HB.out | apply qG | apply qD | apply qF | refine qC ?_ GE362.out) | exact HB.out)))); have n3_ := Aside0.mk (Kd.zJ (Kd.R_new' ho1 (Kd.R_lt (by (with_reducible repeat (first | apply Kd.qU | apply Kd.qT | apply Kd.qV)); exact (Kd.qS (Kd.R_far (p := ⟨gb362, 3, none⟩) (Kd.R_far (p := ⟨gb362, 2, none⟩) (Kd.R_far (p := ⟨gb362, 1, none⟩) (Kd.R_far (p := ⟨gb362, 0, none⟩) (Kd.qW HO357.out BK362.out (by decide)) (fun _ hk => hk.2) (.slice Ao9 t352.length co9)) (fun _ hk => hk.2) (.slice Ao11 t355.length co11)) (fun _ hk => hk.2) (.int .i64 t358)) (fun _ hk => hk.2) (.int .i64 t359)) (fun _ h_ => h_.1))))) (qP (by repeat (first | (with_reducible first | exact HB.out | apply qG | apply qD | apply qF | refine qC ?_ GE362.out) | exact HB.out)))); have n4_ := Aside0.mk (qL (g := gb362) (o := .cells #[.slice Ao9 t352.length co9, .slice Ao11 t355.length co11, .int .i64 t358, .int .i64 t359] 26 (0, 0)) (by (with_reducible repeat (first | refine qH ?_ _ | refine qI ?_ | refine qE ?_ _)); refine qN (cs := #[.slice Ao9 t352.length co9, .slice Ao11 t355.length co11, .int .i64 t358, .int .i64 0]) ?_ 3 _ rfl; (with_reducible repeat (first | refine qH ?_ _ | refine qI ?_ | refine qE ?_ _)); refine qN (cs := #[.slice Ao9 t352.length co9, .slice Ao11 t355.length co11, .int .i64 0, .int .i64 0]) ?_ 2 _ rfl; (with_reducible repeat (first | refine qH ?_ _ | refine qI ?_ | refine qE ?_ _)); refine qN (cs := #[.slice Ao9 t352.length co9, .slice none 0 0, .int .i64 0, .int .i64 0]) ?_ 1 _ rfl; (with_reducible repeat (first | refine qH ?_ _ | refine qI ?_ | refine qE ?_ _)); refine qN (cs := #[.slice none 0 0, .slice none 0 0, .int .i64 0, .int .i64 0]) ?_ 0 _ rfl; (with_reducible repeat (first | refine qH ?_ _ | refine qI ?_ | refine qE ?_ _)); exact BK362.out) hb); have n5_ := Aside0.mk (qQ (by repeat (first | (with_reducible first | exact HB.out | apply qG | apply qD | apply qF | refine qC ?_ GE362.out) | exact HB.out)) hb); clear HO354; clear HO357; clear BK362; clear HB; have HO354 := n0_; have HO357 := n1_; have HO365 := n2_; have HO368 := n3_; have BK362 := n4_; have HB := n5_; clear n0_ n1_ n2_ n3_ n4_ n5_; (try clear hb); (try clear hb2); (try clear hk); (try clear hi); (try clear ho0); (try clear ho1)) | ((with_reducible refine qZ (N := 6) rfl ?_); refine qY ?hg (N := 6) ?hd (cs := #[.slice none 0 0, .slice none 0 0, .int .i64 0, .int .i64 0]) (t := 26) ?hr ?_; (case hd => rfl); (case hg => rfl); (case hr => first | (go_simp; done) | (go_simp; rfl)); intro gb372 hg w13 hbox hb; have n0_ := Aside0.mk (Kd.zR (qw_ HO354.out) hb); have n1_ := Aside0.mk (Kd.zB (rw_ HO357.out) hb); have n2_ := Aside0.mk (Kd.zB (rw_ HO365.out) hb); have n3_ := Aside0.mk (Kd.zB (rw_ HO368.out) hb); have n4_ := Aside0.mk (qL (g := gb362) (o := .cells #[.slice Ao9 t352.length co9, .slice Ao11 t355.length co11, .int .i64 t358, .int .i64 t359] 26 (0, 0)) (bw_ BK362.out) hb); have n5_ := Aside0.mk (qQ (by repeat (first | (with_reducible first | exact HB.out | apply qG | apply qD | apply qF | refine qC ?_ GE362.out) | exact HB.out)) hb); have n6_ := Aside0.mk (hbox); have n7_ := Aside0.mk ((by rw [hg]; exact (qP (by repeat (first | (with_reducible first | exact HB.out | apply qG | apply qD | apply qF | refine qC ?_ GE362.out) | exact HB.out))) : w.heap.size ≤ gb372)); have n8_ := Aside0.mk ((by rw [hg]; exact (qP (by repeat (first | (with_reducible first | exact HB.out | apply qG | apply qD | apply qF | refine qC ?_ GE362.out) | exact HB.out))) : w.heap.size ≤ gb372)); have n9_ := Aside0.mk ((by rw [hg]; exact Nat.ne_of_lt (zE (g := gb362) (o := .cells #[.slice Ao9 t352.length co9, .slice Ao11 t355.length co11, .int .i64 t358, .int .i64 t359] 26 (0, 0)) (bw_ BK362.out)) : gb362 ≠ gb372)); have n10_ := Aside0.mk ((by rw [hg]; exact Nat.ne_of_gt (zE (g := gb362) (o := .cells #[.slice Ao9 t352.length co9, .slice Ao11 t355.length co11, .int .i64 t358, .int .i64 t359] 26 (0, 0)) (bw_ BK362.out)) : gb372 ≠ gb362)); clear HO354; clear HO357; clear HO365; clear HO368; clear BK362; clear HB; have HO354 := n0_; have HO357 := n1_; have HO365 := n2_; have HO368 := n3_; have BK362 := n4_; have HB := n5_; have BK372 := n6_; have GW372 := n7_; have GE372 := n8_; have NB362_372 := n9_; have NB372_362 := n10_; clear n0_ n1_ n2_ n3_ n4_ n5_ n6_ n7_ n8_ n9_ n10_; clear hb hbox hg; obtain ⟨Ao14, co14, eo14⟩ := Kd.zD HO365.out; subst eo14; have hnb15 := NB372_362.out; have hnc15 := NB362_372.out; have hcz16_0 : w13.cell? ⟨gb372, 0, none⟩ = some (.slice none 0 0) := (qA BK372.out 0).trans rfl; have hcz16_1 : w13.cell? ⟨gb372, 1, none⟩ = some (.slice none 0 0) := (qA BK372.out 1).trans rfl; have hcz16_2 : w13.cell? ⟨gb372, 2, none⟩ = some (.int .i64 0) := (qA BK372.out 2).trans rfl; have hcz16_3 : w13.cell? ⟨gb372, 3, none⟩ = some (.int .i64 0) := (qA BK372.out 3).trans rfl; have hfz16_0 := qB BK372.out 0; have hfz16_1 := qB BK372.out 1; have hfz16_2 := qB BK372.out 2; have hfz16_3 := qB BK372.out 3; obtain ⟨Ao17, co17, eo17⟩ := Kd.zD HO368.out; subst eo17; have hcz18_0 : w13.cell? ⟨gb362, 0, none⟩ = some (.slice Ao9 t352.length co9) := (qA BK362.out 0).trans rfl; have hcz18_1 : w13.cell? ⟨gb362, 1, none⟩ = some (.slice Ao11 t355.length co11) := (qA BK362.out 1).trans rfl; have hcz18_2 : w13.cell? ⟨gb362, 2, none⟩ = some (.int .i64 t358) := (qA BK362.out 2).trans rfl; have hcz18_3 : w13.cell? ⟨gb362, 3, none⟩ = some (.int .i64 t359) := (qA BK362.out 3).trans rfl; have hfz18_0 := qB BK362.out 0; have hfz18_1 := qB BK362.out 1; have hfz18_2 := qB BK362.out 2; have hfz18_3 := qB BK362.out 3) | ((with_reducible refine qX (f := 18) rfl ?_); refine zM (some 31) rfl rfl Try.func18 (by kernel_rfl) rfl #[.agg #[.slice Ao9 t352.length co9, .slice Ao11 t355.length co11, .int .i64 t358, .int .i64 t359], .int .i64 t360, .string t361] rfl (by (try simp only [List.map_toArray, List.map_cons, List.map_nil]); first | done | rfl | (simp only [List.length_drop, List.length_take]; rfl)) ?_; (with_reducible refine (spec_DiskWrite.calls k _ _ t352 _ _ t355 t358 t359 t360 t361 t373 t376 t379 t380 t381 _ ?side1 ?side2 ?side3 ?side4 A5.out).mono ?_); (case side1 => refine (Kd.zQ (e := 9) (base := w.heap.size) (ok := fun k_ => (True ∧ some k_ ≠ (.slice Ao14 t363.length co14 : Value).ownBlock)) (n := t352.length) (c := co9) ?_).2.2; exact (by (with_reducible repeat (first | apply Kd.zS | apply Kd.zT | apply Kd.zP)); exact (Kd.zU (Kd.Q_far (p := ⟨gb372, 3, none⟩) (Kd.Q_far (p := ⟨gb372, 2, none⟩) (Kd.Q_far (p := ⟨gb372, 1, none⟩) (Kd.Q_far (p := ⟨gb372, 0, none⟩) (Kd.zZ HO354.out BK372.out (by decide)) (fun _ hk => hk.2) (.slice Ao14 t363.length co14)) (fun _ hk => hk.2) (.slice Ao17 t366.length co17)) (fun _ hk => hk.2) (.int .i64 t369)) (fun _ hk => hk.2) (.int .i64 t370)) (fun _ h_ => h_.1)))); (case side2 => exact (Kd.zQ HO354.out).2.1); (case side3 => refine (Kd.zC (e := 70) (base := w.heap.size) (ok := fun k_ => (True ∧ some k_ ≠ (.slice Ao17 t366.length co17 : Value).ownBlock)) (n := t355.length) (c := co11) ?_).2.2; exact (by (with_reducible repeat (first | apply Kd.qU | apply Kd.qT | apply Kd.qV)); exact (Kd.qS (Kd.R_far (p := ⟨gb372, 3, none⟩) (Kd.R_far (p := ⟨gb372, 2, none⟩) (Kd.R_far (p := ⟨gb372, 1, none⟩) (Kd.R_far (p := ⟨gb372, 0, none⟩) (Kd.qW HO357.out BK372.out (by decide)) (fun _ hk => hk.2) (.slice Ao14 t363.length co14)) (fun _ hk => hk.2) (.slice Ao17 t366.length co17)) (fun _ hk => hk.2) (.int .i64 t369)) (fun _ hk => hk.2) (.int .i64 t370)) (fun _ h_ => h_.1)))); (case side4 => exact (Kd.zC HO357.out).2.1); rintro e w19 ⟨v374, v377, rfl, ho0, ho1, hb⟩; refine ⟨_, rfl, ?_⟩; have n0_ := Aside0.mk (Kd.Q_elder' (by (with_reducible repeat (first | apply Kd.zS | apply Kd.zT | apply Kd.zP)); exact (Kd.zU (Kd.Q_far (p := ⟨gb372, 3, none⟩) (Kd.Q_far (p := ⟨gb372, 2, none⟩) (Kd.Q_far (p := ⟨gb372, 1, none⟩) (Kd.Q_far (p := ⟨gb372, 0, none⟩) (Kd.zZ HO354.out BK372.out (by decide)) (fun _ hk => hk.2) (.slice Ao14 t363.length co14)) (fun _ hk => hk.2) (.slice Ao17 t366.length co17)) (fun _ hk => hk.2) (.int .i64 t369)) (fun _ hk => hk.2) (.int .i64 t370)) (fun _ h_ => h_.1))) (Kd.R_base ho0) hb); have n1_ := Aside0.mk (Kd.xG (by (with_reducible repeat (first | apply Kd.qU | apply Kd.qT | apply Kd.qV)); exact (Kd.qS (Kd.R_far (p := ⟨gb372, 3, none⟩) (Kd.R_far (p := ⟨gb372, 2, none⟩) (Kd.R_far (p := ⟨gb372, 1, none⟩) (Kd.R_far (p := ⟨gb372, 0, none⟩) (Kd.qW HO357.out BK372.out (by decide)) (fun _ hk => hk.2) (.slice Ao14 t363.length co14)) (fun _ hk => hk.2) (.slice Ao17 t366.length co17)) (fun _ hk => hk.2) (.int .i64 t369)) (fun _ hk => hk.2) (.int .i64 t370)) (fun _ h_ => h_.1))) (Kd.R_base ho1) hb); have n2_ := Aside0.mk (Kd.xG (by (with_reducible repeat (first | apply Kd.qU | apply Kd.qT | apply Kd.qV)); exact (Kd.qS (Kd.R_far (p := ⟨gb372, 3, none⟩) (Kd.R_far (p := ⟨gb372, 2, none⟩) (Kd.R_far (p := ⟨gb372, 1, none⟩) (Kd.R_far (p := ⟨gb372, 0, none⟩) (Kd.qW HO365.out BK372.out (by decide)) (fun _ hk => hk.2) (.slice Ao14 t363.length co14)) (fun _ hk => hk.2) (.slice Ao17 t366.length co17)) (fun _ hk => hk.2) (.int .i64 t369)) (fun _ hk => hk.2) (.int .i64 t370)) (fun _ h_ => h_.1))) (Kd.R_base ho0) hb); have n3_ := Aside0.mk (Kd.xG (by (with_reducible repeat (first | apply Kd.qU | apply Kd.qT | apply Kd.qV)); exact (Kd.qS (Kd.R_far (p := ⟨gb372, 3, none⟩) (Kd.R_far (p := ⟨gb372, 2, none⟩) (Kd.R_far (p := ⟨gb372, 1, none⟩) (Kd.R_far (p := ⟨gb372, 0, none⟩) (Kd.qW HO368.out BK372.out (by decide)) (fun _ hk => hk.2) (.slice Ao14 t363.length co14)) (fun _ hk => hk.2) (.slice Ao17 t366.length co17)) (fun _ hk => hk.2) (.int .i64 t369)) (fun _ hk => hk.2) (.int .i64 t370)) (fun _ h_ => h_.1))) (Kd.R_base ho1) hb); have n4_ := Aside0.mk (Kd.zJ (Kd.R_new' (Kd.R_new' ho0 (Kd.Q_lt (by (with_reducible repeat (first | apply Kd.zS | apply Kd.zT | apply Kd.zP)); exact (Kd.zU (Kd.Q_far (p := ⟨gb372, 3, none⟩) (Kd.Q_far (p := ⟨gb372, 2, none⟩) (Kd.Q_far (p := ⟨gb372, 1, none⟩) (Kd.Q_far (p := ⟨gb372, 0, none⟩) (Kd.zZ HO354.out BK372.out (by decide)) (fun _ hk => hk.2) (.slice Ao14 t363.length co14)) (fun _ hk => hk.2) (.slice Ao17 t366.length co17)) (fun _ hk => hk.2) (.int .i64 t369)) (fun _ hk => hk.2) (.int .i64 t370)) (fun _ h_ => h_.1))))) (Kd.R_lt (by (with_reducible repeat (first | apply Kd.qU | apply Kd.qT | apply Kd.qV)); exact (Kd.qS (Kd.R_far (p := ⟨gb372, 3, none⟩) (Kd.R_far (p := ⟨gb372, 2, none⟩) (Kd.R_far (p := ⟨gb372, 1, none⟩) (Kd.R_far (p := ⟨gb372, 0, none⟩) (Kd.qW HO365.out BK372.out (by decide)) (fun _ hk => hk.2) (.slice Ao14 t363.length co14)) (fun _ hk => hk.2) (.slice Ao17 t366.length co17)) (fun _ hk => hk.2) (.int .i64 t369)) (fun _ hk => hk.2) (.int .i64 t370)) (fun _ h_ => h_.1))))) (qP (by repeat (first | (with_reducible first | exact HB.out | apply qG | apply qD | apply qF | refine qC ?_ GE362.out | refine qC ?_ GE372.out) | exact HB.out)))); have n5_ := Aside0.mk (Kd.zJ (Kd.R_new' (Kd.R_new' ho1 (Kd.R_lt (by (with_reducible repeat (first | apply Kd.qU | apply Kd.qT | apply Kd.qV)); exact (Kd.qS (Kd.R_far (p := ⟨gb372, 3, none⟩) (Kd.R_far (p := ⟨gb372, 2, none⟩) (Kd.R_far (p := ⟨gb372, 1, none⟩) (Kd.R_far (p := ⟨gb372, 0, none⟩) (Kd.qW HO357.out BK372.out (by decide)) (fun _ hk => hk.2) (.slice Ao14 t363.length co14)) (fun _ hk => hk.2) (.slice Ao17 t366.length co17)) (fun _ hk => hk.2) (.int .i64 t369)) (fun _ hk => hk.2) (.int .i64 t370)) (fun _ h_ => h_.1))))) (Kd.R_lt (by (with_reducible repeat (first | apply Kd.qU | apply Kd.qT | apply Kd.qV)); exact (Kd.qS (Kd.R_far (p := ⟨gb372, 3, none⟩) (Kd.R_far (p := ⟨gb372, 2, none⟩) (Kd.R_far (p := ⟨gb372, 1, none⟩) (Kd.R_far (p := ⟨gb372, 0, none⟩) (Kd.qW HO368.out BK372.out (by decide)) (fun _ hk => hk.2) (.slice Ao14 t363.length co14)) (fun _ hk => hk.2) (.slice Ao17 t366.length co17)) (fun _ hk => hk.2) (.int .i64 t369)) (fun _ hk => hk.2) (.int .i64 t370)) (fun _ h_ => h_.1))))) (qP (by repeat (first | (with_reducible first | exact HB.out | apply qG | apply qD | apply qF | refine qC ?_ GE362.out | refine qC ?_ GE372.out) | exact HB.out)))); have n6_ := Aside0.mk (qL (g := gb362) (o := .cells #[.slice Ao9 t352.length co9, .slice Ao11 t355.length co11, .int .i64 t358, .int .i64 t359] 26 (0, 0)) (by (with_reducible repeat (first | refine qH ?_ _ | refine qI ?_ | refine qE ?_ _)); refine qR ?_ NB362_372.out _; (with_reducible repeat (first | refine qH ?_ _ | refine qI ?_ | refine qE ?_ _)); refine qR ?_ NB362_372.out _; (with_reducible repeat (first | refine qH ?_ _ | refine qI ?_ | refine qE ?_ _)); refine qR ?_ NB362_372.out _; (with_reducible repeat (first | refine qH ?_ _ | refine qI ?_ | refine qE ?_ _)); refine qR ?_ NB362_372.out _; (with_reducible repeat (first | refine qH ?_ _ | refine qI ?_ | refine qE ?_ _)); exact BK362.out) hb); have n7_ := Aside0.mk (qL (g := gb372) (o := .cells #[.slice Ao14 t363.length co14, .slice Ao17 t366.length co17, .int .i64 t369, .int .i64 t370] 26 (0, 0)) (by (with_reducible repeat (first | refine qH ?_ _ | refine qI ?_ | refine qE ?_ _)); refine qN (cs := #[.slice Ao14 t363.length co14, .slice Ao17 t366.length co17, .int .i64 t369, .int .i64 0]) ?_ 3 _ rfl; (with_reducible repeat (first | refine qH ?_ _ | refine qI ?_ | refine qE ?_ _)); refine qN (cs := #[.slice Ao14 t363.length co14, .slice Ao17 t366.length co17, .int .i64 0, .int .i64 0]) ?_ 2 _ rfl; (with_reducible repeat (first | refine qH ?_ _ | refine qI ?_ | refine qE ?_ _)); refine qN (cs := #[.slice Ao14 t363.length co14, .slice none 0 0, .int .i64 0, .int .i64 0]) ?_ 1 _ rfl; (with_reducible repeat (first | refine qH ?_ _ | refine qI ?_ | refine qE ?_ _)); refine qN (cs := #[.slice none 0 0, .slice none 0 0, .int .i64 0, .int .i64 0]) ?_ 0 _ rfl; (with_reducible repeat (first | refine qH ?_ _ | refine qI ?_ | refine qE ?_ _)); exact BK372.out) hb); have n8_ := Aside0.mk (qQ (by repeat (first | (with_reducible first | exact HB.out | apply qG | apply qD | apply qF | refine qC ?_ GE362.out | refine qC ?_ GE372.out) | exact HB.out)) hb); clear HO354; clear HO357; clear HO365; clear HO368; clear BK362; clear BK372; clear HB; have HO354 := n0_; have HO357 := n1_; have HO365 := n2_; have HO368 := n3_; have HO375 := n4_; have HO378 := n5_; have BK362 := n6_; have BK372 := n7_; have HB := n8_; clear n0_ n1_ n2_ n3_ n4_ n5_ n6_ n7_ n8_; (try clear hb); (try clear hb2); (try clear hk); (try clear hi); (try clear ho0); (try clear ho1)) | ((with_reducible refine qZ (N := 8) rfl ?_); refine qY ?hg (N := 8) ?hd (cs := #[.slice none 0 0, .slice none 0 0, .int .i64 0, .int .i64 0]) (t := 26) ?hr ?_; (case hd => rfl); (case hg => rfl); (case hr => first | (go_simp; done) | (go_simp; rfl)); intro gb382 hg w20 hbox hb; have n0_ := Aside0.mk (Kd.zR (qw_ HO354.out) hb); have n1_ := Aside0.mk (Kd.zB (rw_ HO357.out) hb); have n2_ := Aside0.mk (Kd.zB (rw_ HO365.out) hb); have n3_ := Aside0.mk (Kd.zB (rw_ HO368.out) hb); have n4_ := Aside0.mk (Kd.zB (rw_ HO375.out) hb); have n5_ := Aside0.mk (Kd.zB (rw_ HO378.out) hb); have n6_ := Aside0.mk (qL (g := gb362) (o := .cells #[.slice Ao9 t352.length co9, .slice Ao11 t355.length co11, .int .i64 t358, .int .i64 t359] 26 (0, 0)) (bw_ BK362.out) hb); have n7_ := Aside0.mk (qL (g := gb372) (o := .cells #[.slice Ao14 t363.length co14, .slice Ao17 t366.length co17, .int .i64 t369, .int .i64 t370] 26 (0, 0)) (bw_ BK372.out) hb); have n8_ := Aside0.mk (qQ (by repeat (first | (with_reducible first | exact HB.out | apply qG | apply qD | apply qF | refine qC ?_ GE362.out | refine qC ?_ GE372.out) | exact HB.out)) hb); have n9_ := Aside0.mk (hbox); have n10_ := Aside0.mk ((by rw [hg]; exact (qP (by repeat (first | (with_reducible first | exact HB.out | apply qG | apply qD | apply qF | refine qC ?_ GE362.out | refine qC ?_ GE372.out) | exact HB.out))) : w.heap.size ≤ gb382)); have n11_ := Aside0.mk ((by rw [hg]; exact (qP (by repeat (first | (with_reducible first | exact HB.out | apply qG | apply qD | apply qF | refine qC ?_ GE362.out | refine qC ?_ GE372.out) | exact HB.out))) : w.heap.size ≤ gb382)); have n12_ := Aside0.mk ((by rw [hg]; exact Nat.ne_of_lt (zE (g := gb362) (o := .cells #[.slice Ao9 t352.length co9, .slice Ao11 t355.length co11, .int .i64 t358, .int .i64 t359] 26 (0, 0)) (bw_ BK362.out)) : gb362 ≠ gb382)); have n13_ := Aside0.mk ((by rw [hg]; exact Nat.ne_of_gt (zE (g := gb362) (o := .cells #[.slice Ao9 t352.length co9, .slice Ao11 t355.length co11, .int .i64 t358, .int .i64 t359] 26 (0, 0)) (bw_ BK362.out)) : gb382 ≠ gb362)); have n14_ := Aside0.mk ((by rw [hg]; exact Nat.ne_of_lt (zE (g := gb372) (o := .cells #[.slice Ao14 t363.length co14, .slice Ao17 t366.length co17, .int .i64 t369, .int .i64 t370] 26 (0, 0)) (bw_ BK372.out)) : gb372 ≠ gb382)); have n15_ := Aside0.mk ((by rw [hg]; exact Nat.ne_of_gt (zE (g := gb372) (o := .cells #[.slice Ao14 t363.length co14, .slice Ao17 t366.length co17, .int .i64 t369, .int .i64 t370] 26 (0, 0)) (bw_ BK372.out)) : gb382 ≠ gb372)); clear HO354; clear HO357; clear HO365; clear HO368; clear HO375; clear HO378; clear BK362; clear BK372; clear HB; have HO354 := n0_; have HO357 := n1_; have HO365 := n2_; have HO368 := n3_; have HO375 := n4_; have HO378 := n5_; have BK362 := n6_; have BK372 := n7_; have HB := n8_; have BK382 := n9_; have GW382 := n10_; have GE382 := n11_; have NB362_382 := n12_; have NB382_362 := n13_; have NB372_382 := n14_; have NB382_372 := n15_; clear n0_ n1_ n2_ n3_ n4_ n5_ n6_ n7_ n8_ n9_ n10_ n11_ n12_ n13_ n14_ n15_; clear hb hbox hg; obtain ⟨Ao21, co21, eo21⟩ := Kd.zD HO375.out; subst eo21; have hnb22 := NB382_362.out; have hnc22 := NB362_382.out; have hnb23 := NB382_372.out; have hnc23 := NB372_382.out; have hcz24_0 : w20.cell? ⟨gb382, 0, none⟩ = some (.slice none 0 0) := (qA BK382.out 0).trans rfl; have hcz24_1 : w20.cell? ⟨gb382, 1, none⟩ = some (.slice none 0 0) := (qA BK382.out 1).trans rfl; have hcz24_2 : w20.cell? ⟨gb382, 2, none⟩ = some (.int .i64 0) := (qA BK382.out 2).trans rfl; have hcz24_3 : w20.cell? ⟨gb382, 3, none⟩ = some (.int .i64 0) := (qA BK382.out 3).trans rfl; have hfz24_0 := qB BK382.out 0; have hfz24_1 := qB BK382.out 1; have hfz24_2 := qB BK382.out 2; have hfz24_3 := qB BK382.out 3; obtain ⟨Ao25, co25, eo25⟩ := Kd.zD HO378.out; subst eo25))
    (try simp only [Act.put, List.setIfInBounds_toArray, List.set_cons_zero, List.set_cons_succ])
    go_cut [46] (fun v46 wc => ∃ (kq : Nat) (x46_5 : Bool), v46 = .bool x46_5 ∧ Aside0 (laws_FnDiskWrite.j0 kq t360 t361 t371 t381 x46_5 t352 t355 t358 t359 t363 t366 t369 t370 t373 t376 t379 t380 = some true) ∧ Aside0 (kq ≤ k) ∧ Aside0 (Kd.Q Kd.string 9 wc w.heap.size (fun k_ => some k_ ≠ ((.slice Ao14 t363.length co14) : Value).ownBlock ∧ some k_ ≠ ((.slice Ao21 t373.length co21) : Value).ownBlock) (.slice Ao9 t352.length co9) t352) ∧ Aside0 (Kd.R k70 70 wc w.heap.size (fun k_ => some k_ ≠ ((.slice Ao17 t366.length co17) : Value).ownBlock ∧ some k_ ≠ ((.slice Ao25 t376.length co25) : Value).ownBlock) (.slice Ao11 t355.length co11) t355) ∧ Aside0 (Kd.Q Kd.string 9 wc w.heap.size (fun k_ => some k_ ≠ ((.slice Ao9 t352.length co9) : Value).ownBlock ∧ some k_ ≠ ((.slice Ao21 t373.length co21) : Value).ownBlock) (.slice Ao14 t363.length co14) t363) ∧ Aside0 (Kd.R k70 70 wc w.heap.size (fun k_ => some k_ ≠ ((.slice Ao11 t355.length co11) : Value).ownBlock ∧ some k_ ≠ ((.slice Ao25 t376.length co25) : Value).ownBlock) (.slice Ao17 t366.length co17) t366) ∧ Aside0 (Kd.Q Kd.string 9 wc w.heap.size (fun k_ => some k_ ≠ ((.slice Ao9 t352.length co9) : Value).ownBlock ∧ some k_ ≠ ((.slice Ao14 t363.length co14) : Value).ownBlock) (.slice Ao21 t373.length co21) t373) ∧ Aside0 (Kd.R k70 70 wc w.heap.size (fun k_ => some k_ ≠ ((.slice Ao11 t355.length co11) : Value).ownBlock ∧ some k_ ≠ ((.slice Ao17 t366.length co17) : Value).ownBlock) (.slice Ao25 t376.length co25) t376) ∧ Aside0 (wc.heap[gb362]? = some (.cells #[(.slice Ao9 t352.length co9), (.slice Ao11 t355.length co11), .int .i64 t358, .int .i64 t359] 26 (0, 0))) ∧ Aside0 (wc.heap[gb372]? = some (.cells #[(.slice Ao14 t363.length co14), (.slice Ao17 t366.length co17), .int .i64 t369, .int .i64 t370] 26 (0, 0))) ∧ Aside0 (wc.heap[gb382]? = some (.cells #[(.slice Ao21 t373.length co21), (.slice Ao25 t376.length co25), .int .i64 t379, .int .i64 t380] 26 (0, 0))) ∧ Aside0 (Below w.heap.size w wc))
    case first =>
      have H := HC6.out
      clear HC6
      by_cases c26 : (t371 != t381) = true
      · rw [if_pos c26] at H
        have c26b0 : (t371 != t381) = true := c26
        (try (have c26b1 : decide (t371 = t381) = false := by simpa using c26))
        (try (have c26b2 : (t371 == t381) = false := by simpa using c26))
        (try (have c26b3 : ¬ (t371 = t381) := by simpa using c26))
        clear c26
        (first | rw [c26b0] | (simp only [i64_w, i32_w]; rw [c26b0]) | skip)
        have H' := Aside0.mk H
        clear H
        go_wp2
        go_meet
        case rel => exact ⟨_, (true), (by first | rfl | (simp; done) | (simp [*]; done)), H', ⟨by first | omega | exact Nat.le_refl _⟩, ⟨by (with_reducible repeat (first | apply Kd.zS | apply Kd.zT | apply Kd.zP)); exact Kd.zU (Kd.Q_far (p := ⟨gb382, 3, none⟩) (Kd.Q_far (p := ⟨gb382, 2, none⟩) (Kd.Q_far (p := ⟨gb382, 1, none⟩) (Kd.Q_far (p := ⟨gb382, 0, none⟩) (Kd.zZ HO354.out BK382.out (by decide)) (fun _ hk => hk.2) (.slice Ao21 t373.length co21)) (fun _ hk => hk.2) (.slice Ao25 t376.length co25)) (fun _ hk => hk.2) (.int .i64 t379)) (fun _ hk => hk.2) (.int .i64 t380)) (fun _ hk => ⟨hk.1.1.2, hk.1.2⟩)⟩, ⟨by (with_reducible repeat (first | apply Kd.qU | apply Kd.qT | apply Kd.qV)); exact Kd.qS (Kd.R_far (p := ⟨gb382, 3, none⟩) (Kd.R_far (p := ⟨gb382, 2, none⟩) (Kd.R_far (p := ⟨gb382, 1, none⟩) (Kd.R_far (p := ⟨gb382, 0, none⟩) (Kd.qW HO357.out BK382.out (by decide)) (fun _ hk => hk.2) (.slice Ao21 t373.length co21)) (fun _ hk => hk.2) (.slice Ao25 t376.length co25)) (fun _ hk => hk.2) (.int .i64 t379)) (fun _ hk => hk.2) (.int .i64 t380)) (fun _ hk => ⟨hk.1.1.2, hk.1.2⟩)⟩, ⟨Kd.Q_of_R (by (with_reducible repeat (first | apply Kd.qU | apply Kd.qT | apply Kd.qV)); exact Kd.qS (Kd.R_far (p := ⟨gb382, 3, none⟩) (Kd.R_far (p := ⟨gb382, 2, none⟩) (Kd.R_far (p := ⟨gb382, 1, none⟩) (Kd.R_far (p := ⟨gb382, 0, none⟩) (Kd.qW HO365.out BK382.out (by decide)) (fun _ hk => hk.2) (.slice Ao21 t373.length co21)) (fun _ hk => hk.2) (.slice Ao25 t376.length co25)) (fun _ hk => hk.2) (.int .i64 t379)) (fun _ hk => hk.2) (.int .i64 t380)) (fun _ hk => ⟨hk.1.1.2, hk.1.2⟩))⟩, ⟨by (with_reducible repeat (first | apply Kd.qU | apply Kd.qT | apply Kd.qV)); exact Kd.qS (Kd.R_far (p := ⟨gb382, 3, none⟩) (Kd.R_far (p := ⟨gb382, 2, none⟩) (Kd.R_far (p := ⟨gb382, 1, none⟩) (Kd.R_far (p := ⟨gb382, 0, none⟩) (Kd.qW HO368.out BK382.out (by decide)) (fun _ hk => hk.2) (.slice Ao21 t373.length co21)) (fun _ hk => hk.2) (.slice Ao25 t376.length co25)) (fun _ hk => hk.2) (.int .i64 t379)) (fun _ hk => hk.2) (.int .i64 t380)) (fun _ hk => ⟨hk.1.1.2, hk.1.2⟩)⟩, ⟨Kd.Q_of_R (by (with_reducible repeat (first | apply Kd.qU | apply Kd.qT | apply Kd.qV)); exact Kd.qS (Kd.R_far (p := ⟨gb382, 3, none⟩) (Kd.R_far (p := ⟨gb382, 2, none⟩) (Kd.R_far (p := ⟨gb382, 1, none⟩) (Kd.R_far (p := ⟨gb382, 0, none⟩) (Kd.qW HO375.out BK382.out (by decide)) (fun _ hk => hk.2) (.slice Ao21 t373.length co21)) (fun _ hk => hk.2) (.slice Ao25 t376.length co25)) (fun _ hk => hk.2) (.int .i64 t379)) (fun _ hk => hk.2) (.int .i64 t380)) (fun _ hk => ⟨hk.1.1.2, hk.1.2⟩))⟩, ⟨by (with_reducible repeat (first | apply Kd.qU | apply Kd.qT | apply Kd.qV)); exact Kd.qS (Kd.R_far (p := ⟨gb382, 3, none⟩) (Kd.R_far (p := ⟨gb382, 2, none⟩) (Kd.R_far (p := ⟨gb382, 1, none⟩) (Kd.R_far (p := ⟨gb382, 0, none⟩) (Kd.qW HO378.out BK382.out (by decide)) (fun _ hk => hk.2) (.slice Ao21 t373.length co21)) (fun _ hk => hk.2) (.slice Ao25 t376.length co25)) (fun _ hk => hk.2) (.int .i64 t379)) (fun _ hk => hk.2) (.int .i64 t380)) (fun _ hk => ⟨hk.1.1.2, hk.1.2⟩)⟩, ⟨by (with_reducible repeat (first | refine qH ?_ _ | refine qI ?_ | refine qE ?_ _)); refine qR ?_ NB362_382.out _; (with_reducible repeat (first | refine qH ?_ _ | refine qI ?_ | refine qE ?_ _)); refine qR ?_ NB362_382.out _; (with_reducible repeat (first | refine qH ?_ _ | refine qI ?_ | refine qE ?_ _)); refine qR ?_ NB362_382.out _; (with_reducible repeat (first | refine qH ?_ _ | refine qI ?_ | refine qE ?_ _)); refine qR ?_ NB362_382.out _; (with_reducible repeat (first | refine qH ?_ _ | refine qI ?_ | refine qE ?_ _)); exact BK362.out⟩, ⟨by (with_reducible repeat (first | refine qH ?_ _ | refine qI ?_ | refine qE ?_ _)); refine qR ?_ NB372_382.out _; (with_reducible repeat (first | refine qH ?_ _ | refine qI ?_ | refine qE ?_ _)); refine qR ?_ NB372_382.out _; (with_reducible repeat (first | refine qH ?_ _ | refine qI ?_ | refine qE ?_ _)); refine qR ?_ NB372_382.out _; (with_reducible repeat (first | refine qH ?_ _ | refine qI ?_ | refine qE ?_ _)); refine qR ?_ NB372_382.out _; (with_reducible repeat (first | refine qH ?_ _ | refine qI ?_ | refine qE ?_ _)); exact BK372.out⟩, ⟨by (with_reducible repeat (first | refine qH ?_ _ | refine qI ?_ | refine qE ?_ _)); refine qN (cs := #[.slice Ao21 t373.length co21, .slice Ao25 t376.length co25, .int .i64 t379, .int .i64 0]) ?_ 3 _ rfl; (with_reducible repeat (first | refine qH ?_ _ | refine qI ?_ | refine qE ?_ _)); refine qN (cs := #[.slice Ao21 t373.length co21, .slice Ao25 t376.length co25, .int .i64 0, .int .i64 0]) ?_ 2 _ rfl; (with_reducible repeat (first | refine qH ?_ _ | refine qI ?_ | refine qE ?_ _)); refine qN (cs := #[.slice Ao21 t373.length co21, .slice none 0 0, .int .i64 0, .int .i64 0]) ?_ 1 _ rfl; (with_reducible repeat (first | refine qH ?_ _ | refine qI ?_ | refine qE ?_ _)); refine qN (cs := #[.slice none 0 0, .slice none 0 0, .int .i64 0, .int .i64 0]) ?_ 0 _ rfl; (with_reducible repeat (first | refine qH ?_ _ | refine qI ?_ | refine qE ?_ _)); exact BK382.out⟩, ⟨by repeat (first | (with_reducible first | exact HB.out | apply qG | apply qD | apply qF | refine qC ?_ GE362.out | refine qC ?_ GE372.out | refine qC ?_ GE382.out) | exact HB.out)⟩⟩
      · rw [if_neg c26] at H
        have c26b0 : (t371 != t381) = false := by simpa using c26
        (try (have c26b1 : decide (t371 = t381) = true := by simpa using c26))
        (try (have c26b2 : (t371 == t381) = true := by simpa using c26))
        clear c26
        (first | rw [c26b0] | (simp only [i64_w, i32_w]; rw [c26b0]) | skip)
        replace H := Option.bind_eq_some_iff.mp H
        obtain ⟨t383, A270, H⟩ := H
        replace H : (if t383 = true then (laws_FnDiskWrite.j0 k t360 t361 t371 t381 (!t371) t352 t355 t358 t359 t363 t366 t369 t370 t373 t376 t379 t380) else (laws_FnDiskWrite.j0 k t360 t361 t371 t381 true t352 t355 t358 t359 t363 t366 t369 t370 t373 t376 t379 t380)) = some true := H
        have A27 := Aside0.mk A270
        clear A270
        by_cases c28 : t383 = true
        · subst c28
          have H1 : (laws_FnDiskWrite.j0 k t360 t361 t371 t381 (!t371) t352 t355 t358 t359 t363 t366 t369 t370 t373 t376 t379 t380) = some true := by first | rfl | (rw [if_pos rfl] at H; exact H)
          clear H
          have H := H1
          clear H1
          have H' := Aside0.mk H
          clear H
          have hnb29 := NB372_362.out
          have hnc29 := NB362_372.out
          have hnb30 := NB372_382.out
          have hnc30 := NB382_372.out
          have hcz31_0 : w20.cell? ⟨gb372, 0, none⟩ = some (.slice Ao14 t363.length co14) := (qA BK372.out 0).trans rfl
          have hcz31_1 : w20.cell? ⟨gb372, 1, none⟩ = some (.slice Ao17 t366.length co17) := (qA BK372.out 1).trans rfl
          have hcz31_2 : w20.cell? ⟨gb372, 2, none⟩ = some (.int .i64 t369) := (qA BK372.out 2).trans rfl
          have hcz31_3 : w20.cell? ⟨gb372, 3, none⟩ = some (.int .i64 t370) := (qA BK372.out 3).trans rfl
          have hfz31_0 := qB BK372.out 0
          have hfz31_1 := qB BK372.out 1
          have hfz31_2 := qB BK372.out 2
          have hfz31_3 := qB BK372.out 3
          have hnb32 := NB382_362.out
          have hnc32 := NB362_382.out
          have hcz33_0 : w20.cell? ⟨gb382, 0, none⟩ = some (.slice none 0 0) := (qA BK382.out 0).trans rfl
          have hcz33_1 : w20.cell? ⟨gb382, 1, none⟩ = some (.slice none 0 0) := (qA BK382.out 1).trans rfl
          have hcz33_2 : w20.cell? ⟨gb382, 2, none⟩ = some (.int .i64 0) := (qA BK382.out 2).trans rfl
          have hcz33_3 : w20.cell? ⟨gb382, 3, none⟩ = some (.int .i64 0) := (qA BK382.out 3).trans rfl
          have hfz33_0 := qB BK382.out 0
          have hfz33_1 := qB BK382.out 1
          have hfz33_2 := qB BK382.out 2
          have hfz33_3 := qB BK382.out 3
          go_wp2_with (first | (go_at_call 13; (with_reducible refine (laws_jtDisk.calls k _ _ t363 _ _ t366 t369 t370 _ _ t373 _ _ t376 t379 t380 true _ ?side1 ?side2 ?side3 ?side4 ?side5 ?side6 ?side7 ?side8 A27.out).mono ?_); (case side1 => refine (Kd.zC (e := 9) (base := w.heap.size) (ok := fun k_ => ((True ∧ some k_ ≠ (.slice Ao9 t352.length co9 : Value).ownBlock) ∧ some k_ ≠ (.slice Ao21 t373.length co21 : Value).ownBlock)) (n := t363.length) (c := co14) ?_).2.2; exact (by (with_reducible repeat (first | apply Kd.qU | apply Kd.qT | apply Kd.qV)); exact (Kd.qS (Kd.R_far (p := ⟨gb382, 3, none⟩) (Kd.R_far (p := ⟨gb382, 2, none⟩) (Kd.R_far (p := ⟨gb382, 1, none⟩) (Kd.R_far (p := ⟨gb382, 0, none⟩) (Kd.qW HO365.out BK382.out (by decide)) (fun _ hk => hk.2) (.slice Ao21 t373.length co21)) (fun _ hk => hk.2) (.slice Ao25 t376.length co25)) (fun _ hk => hk.2) (.int .i64 t379)) (fun _ hk => hk.2) (.int .i64 t380)) (fun _ h_ => h_.1)))); (case side2 => exact (Kd.zC HO365.out).2.1); (case side3 => refine (Kd.zC (e := 70) (base := w.heap.size) (ok := fun k_ => ((True ∧ some k_ ≠ (.slice Ao11 t355.length co11 : Value).ownBlock) ∧ some k_ ≠ (.slice Ao25 t376.length co25 : Value).ownBlock)) (n := t366.length) (c := co17) ?_).2.2; exact (by (with_reducible repeat (first | apply Kd.qU | apply Kd.qT | apply Kd.qV)); exact (Kd.qS (Kd.R_far (p := ⟨gb382, 3, none⟩) (Kd.R_far (p := ⟨gb382, 2, none⟩) (Kd.R_far (p := ⟨gb382, 1, none⟩) (Kd.R_far (p := ⟨gb382, 0, none⟩) (Kd.qW HO368.out BK382.out (by decide)) (fun _ hk => hk.2) (.slice Ao21 t373.length co21)) (fun _ hk => hk.2) (.slice Ao25 t376.length co25)) (fun _ hk => hk.2) (.int .i64 t379)) (fun _ hk => hk.2) (.int .i64 t380)) (fun _ h_ => h_.1)))); (case side4 => exact (Kd.zC HO368.out).2.1); (case side5 => refine (Kd.zC (e := 9) (base := w.heap.size) (ok := fun k_ => ((True ∧ some k_ ≠ (.slice Ao9 t352.length co9 : Value).ownBlock) ∧ some k_ ≠ (.slice Ao14 t363.length co14 : Value).ownBlock)) (n := t373.length) (c := co21) ?_).2.2; exact (by (with_reducible repeat (first | apply Kd.qU | apply Kd.qT | apply Kd.qV)); exact (Kd.qS (Kd.R_far (p := ⟨gb382, 3, none⟩) (Kd.R_far (p := ⟨gb382, 2, none⟩) (Kd.R_far (p := ⟨gb382, 1, none⟩) (Kd.R_far (p := ⟨gb382, 0, none⟩) (Kd.qW HO375.out BK382.out (by decide)) (fun _ hk => hk.2) (.slice Ao21 t373.length co21)) (fun _ hk => hk.2) (.slice Ao25 t376.length co25)) (fun _ hk => hk.2) (.int .i64 t379)) (fun _ hk => hk.2) (.int .i64 t380)) (fun _ h_ => h_.1)))); (case side6 => exact (Kd.zC HO375.out).2.1); (case side7 => refine (Kd.zC (e := 70) (base := w.heap.size) (ok := fun k_ => ((True ∧ some k_ ≠ (.slice Ao11 t355.length co11 : Value).ownBlock) ∧ some k_ ≠ (.slice Ao17 t366.length co17 : Value).ownBlock)) (n := t376.length) (c := co25) ?_).2.2; exact (by (with_reducible repeat (first | apply Kd.qU | apply Kd.qT | apply Kd.qV)); exact (Kd.qS (Kd.R_far (p := ⟨gb382, 3, none⟩) (Kd.R_far (p := ⟨gb382, 2, none⟩) (Kd.R_far (p := ⟨gb382, 1, none⟩) (Kd.R_far (p := ⟨gb382, 0, none⟩) (Kd.qW HO378.out BK382.out (by decide)) (fun _ hk => hk.2) (.slice Ao21 t373.length co21)) (fun _ hk => hk.2) (.slice Ao25 t376.length co25)) (fun _ hk => hk.2) (.int .i64 t379)) (fun _ hk => hk.2) (.int .i64 t380)) (fun _ h_ => h_.1)))); (case side8 => exact (Kd.zC HO378.out).2.1); rintro e w34 ⟨rfl, hb⟩; have n0_ := Aside0.mk (Kd.zR (by (with_reducible repeat (first | apply Kd.zS | apply Kd.zT | apply Kd.zP)); exact (Kd.zU (Kd.Q_far (p := ⟨gb382, 3, none⟩) (Kd.Q_far (p := ⟨gb382, 2, none⟩) (Kd.Q_far (p := ⟨gb382, 1, none⟩) (Kd.Q_far (p := ⟨gb382, 0, none⟩) (Kd.zZ HO354.out BK382.out (by decide)) (fun _ hk => hk.2) (.slice Ao21 t373.length co21)) (fun _ hk => hk.2) (.slice Ao25 t376.length co25)) (fun _ hk => hk.2) (.int .i64 t379)) (fun _ hk => hk.2) (.int .i64 t380)) (fun _ h_ => h_.1))) hb); have n1_ := Aside0.mk (Kd.zB (by (with_reducible repeat (first | apply Kd.qU | apply Kd.qT | apply Kd.qV)); exact (Kd.qS (Kd.R_far (p := ⟨gb382, 3, none⟩) (Kd.R_far (p := ⟨gb382, 2, none⟩) (Kd.R_far (p := ⟨gb382, 1, none⟩) (Kd.R_far (p := ⟨gb382, 0, none⟩) (Kd.qW HO357.out BK382.out (by decide)) (fun _ hk => hk.2) (.slice Ao21 t373.length co21)) (fun _ hk => hk.2) (.slice Ao25 t376.length co25)) (fun _ hk => hk.2) (.int .i64 t379)) (fun _ hk => hk.2) (.int .i64 t380)) (fun _ h_ => h_.1))) hb); have n2_ := Aside0.mk (Kd.zB (by (with_reducible repeat (first | apply Kd.qU | apply Kd.qT | apply Kd.qV)); exact (Kd.qS (Kd.R_far (p := ⟨gb382, 3, none⟩) (Kd.R_far (p := ⟨gb382, 2, none⟩) (Kd.R_far (p := ⟨gb382, 1, none⟩) (Kd.R_far (p := ⟨gb382, 0, none⟩) (Kd.qW HO365.out BK382.out (by decide)) (fun _ hk => hk.2) (.slice Ao21 t373.length co21)) (fun _ hk => hk.2) (.slice Ao25 t376.length co25)) (fun _ hk => hk.2) (.int .i64 t379)) (fun _ hk => hk.2) (.int .i64 t380)) (fun _ h_ => h_.1))) hb); have n3_ := Aside0.mk (Kd.zB (by (with_reducible repeat (first | apply Kd.qU | apply Kd.qT | apply Kd.qV)); exact (Kd.qS (Kd.R_far (p := ⟨gb382, 3, none⟩) (Kd.R_far (p := ⟨gb382, 2, none⟩) (Kd.R_far (p := ⟨gb382, 1, none⟩) (Kd.R_far (p := ⟨gb382, 0, none⟩) (Kd.qW HO368.out BK382.out (by decide)) (fun _ hk => hk.2) (.slice Ao21 t373.length co21)) (fun _ hk => hk.2) (.slice Ao25 t376.length co25)) (fun _ hk => hk.2) (.int .i64 t379)) (fun _ hk => hk.2) (.int .i64 t380)) (fun _ h_ => h_.1))) hb); have n4_ := Aside0.mk (Kd.zB (by (with_reducible repeat (first | apply Kd.qU | apply Kd.qT | apply Kd.qV)); exact (Kd.qS (Kd.R_far (p := ⟨gb382, 3, none⟩) (Kd.R_far (p := ⟨gb382, 2, none⟩) (Kd.R_far (p := ⟨gb382, 1, none⟩) (Kd.R_far (p := ⟨gb382, 0, none⟩) (Kd.qW HO375.out BK382.out (by decide)) (fun _ hk => hk.2) (.slice Ao21 t373.length co21)) (fun _ hk => hk.2) (.slice Ao25 t376.length co25)) (fun _ hk => hk.2) (.int .i64 t379)) (fun _ hk => hk.2) (.int .i64 t380)) (fun _ h_ => h_.1))) hb); have n5_ := Aside0.mk (Kd.zB (by (with_reducible repeat (first | apply Kd.qU | apply Kd.qT | apply Kd.qV)); exact (Kd.qS (Kd.R_far (p := ⟨gb382, 3, none⟩) (Kd.R_far (p := ⟨gb382, 2, none⟩) (Kd.R_far (p := ⟨gb382, 1, none⟩) (Kd.R_far (p := ⟨gb382, 0, none⟩) (Kd.qW HO378.out BK382.out (by decide)) (fun _ hk => hk.2) (.slice Ao21 t373.length co21)) (fun _ hk => hk.2) (.slice Ao25 t376.length co25)) (fun _ hk => hk.2) (.int .i64 t379)) (fun _ hk => hk.2) (.int .i64 t380)) (fun _ h_ => h_.1))) hb); have n6_ := Aside0.mk (qL (g := gb362) (o := .cells #[.slice Ao9 t352.length co9, .slice Ao11 t355.length co11, .int .i64 t358, .int .i64 t359] 26 (0, 0)) (by (with_reducible repeat (first | refine qH ?_ _ | refine qI ?_ | refine qE ?_ _)); refine qR ?_ NB362_382.out _; (with_reducible repeat (first | refine qH ?_ _ | refine qI ?_ | refine qE ?_ _)); refine qR ?_ NB362_382.out _; (with_reducible repeat (first | refine qH ?_ _ | refine qI ?_ | refine qE ?_ _)); refine qR ?_ NB362_382.out _; (with_reducible repeat (first | refine qH ?_ _ | refine qI ?_ | refine qE ?_ _)); refine qR ?_ NB362_382.out _; (with_reducible repeat (first | refine qH ?_ _ | refine qI ?_ | refine qE ?_ _)); exact BK362.out) hb); have n7_ := Aside0.mk (qL (g := gb372) (o := .cells #[.slice Ao14 t363.length co14, .slice Ao17 t366.length co17, .int .i64 t369, .int .i64 t370] 26 (0, 0)) (by (with_reducible repeat (first | refine qH ?_ _ | refine qI ?_ | refine qE ?_ _)); refine qR ?_ NB372_382.out _; (with_reducible repeat (first | refine qH ?_ _ | refine qI ?_ | refine qE ?_ _)); refine qR ?_ NB372_382.out _; (with_reducible repeat (first | refine qH ?_ _ | refine qI ?_ | refine qE ?_ _)); refine qR ?_ NB372_382.out _; (with_reducible repeat (first | refine qH ?_ _ | refine qI ?_ | refine qE ?_ _)); refine qR ?_ NB372_382.out _; (with_reducible repeat (first | refine qH ?_ _ | refine qI ?_ | refine qE ?_ _)); exact BK372.out) hb); have n8_ := Aside0.mk (qL (g := gb382) (o := .cells #[.slice Ao21 t373.length co21, .slice Ao25 t376.length co25, .int .i64 t379, .int .i64 t380] 26 (0, 0)) (by (with_reducible repeat (first | refine qH ?_ _ | refine qI ?_ | refine qE ?_ _)); refine qN (cs := #[.slice Ao21 t373.length co21, .slice Ao25 t376.length co25, .int .i64 t379, .int .i64 0]) ?_ 3 _ rfl; (with_reducible repeat (first | refine qH ?_ _ | refine qI ?_ | refine qE ?_ _)); refine qN (cs := #[.slice Ao21 t373.length co21, .slice Ao25 t376.length co25, .int .i64 0, .int .i64 0]) ?_ 2 _ rfl; (with_reducible repeat (first | refine qH ?_ _ | refine qI ?_ | refine qE ?_ _)); refine qN (cs := #[.slice Ao21 t373.length co21, .slice none 0 0, .int .i64 0, .int .i64 0]) ?_ 1 _ rfl; (with_reducible repeat (first | refine qH ?_ _ | refine qI ?_ | refine qE ?_ _)); refine qN (cs := #[.slice none 0 0, .slice none 0 0, .int .i64 0, .int .i64 0]) ?_ 0 _ rfl; (with_reducible repeat (first | refine qH ?_ _ | refine qI ?_ | refine qE ?_ _)); exact BK382.out) hb); have n9_ := Aside0.mk (qQ (by repeat (first | (with_reducible first | exact HB.out | apply qG | apply qD | apply qF | refine qC ?_ GE362.out | refine qC ?_ GE372.out | refine qC ?_ GE382.out) | exact HB.out)) hb); clear HO354; clear HO357; clear HO365; clear HO368; clear HO375; clear HO378; clear BK362; clear BK372; clear BK382; clear HB; have HO354 := n0_; have HO357 := n1_; have HO365 := n2_; have HO368 := n3_; have HO375 := n4_; have HO378 := n5_; have BK362 := n6_; have BK372 := n7_; have BK382 := n8_; have HB := n9_; clear n0_ n1_ n2_ n3_ n4_ n5_ n6_ n7_ n8_ n9_; (try clear hb); (try clear hb2); (try clear hk); (try clear hi)))
          go_meet
          case rel => exact ⟨_, (!t371), (by first | rfl | (simp; done) | (simp [*]; done)), H', ⟨by first | omega | exact Nat.le_refl _⟩, ⟨by (with_reducible repeat (first | apply Kd.zS | apply Kd.zT | apply Kd.zP)); exact Kd.zU HO354.out (fun _ hk => ⟨hk.1.2, hk.2⟩)⟩, ⟨by (with_reducible repeat (first | apply Kd.qU | apply Kd.qT | apply Kd.qV)); exact Kd.qS HO357.out (fun _ hk => ⟨hk.1.2, hk.2⟩)⟩, ⟨Kd.Q_of_R (by (with_reducible repeat (first | apply Kd.qU | apply Kd.qT | apply Kd.qV)); exact Kd.qS HO365.out (fun _ hk => ⟨hk.1.2, hk.2⟩))⟩, ⟨by (with_reducible repeat (first | apply Kd.qU | apply Kd.qT | apply Kd.qV)); exact Kd.qS HO368.out (fun _ hk => ⟨hk.1.2, hk.2⟩)⟩, ⟨Kd.Q_of_R (by (with_reducible repeat (first | apply Kd.qU | apply Kd.qT | apply Kd.qV)); exact Kd.qS HO375.out (fun _ hk => ⟨hk.1.2, hk.2⟩))⟩, ⟨by (with_reducible repeat (first | apply Kd.qU | apply Kd.qT | apply Kd.qV)); exact Kd.qS HO378.out (fun _ hk => ⟨hk.1.2, hk.2⟩)⟩, ⟨by (with_reducible repeat (first | refine qH ?_ _ | refine qI ?_ | refine qE ?_ _)); exact BK362.out⟩, ⟨by (with_reducible repeat (first | refine qH ?_ _ | refine qI ?_ | refine qE ?_ _)); exact BK372.out⟩, ⟨by (with_reducible repeat (first | refine qH ?_ _ | refine qI ?_ | refine qE ?_ _)); exact BK382.out⟩, ⟨by repeat (first | (with_reducible first | exact HB.out | apply qG | apply qD | apply qF | refine qC ?_ GE362.out | refine qC ?_ GE372.out | refine qC ?_ GE382.out) | exact HB.out)⟩⟩
        · replace c28 := Bool.eq_false_iff.mpr c28
          subst c28
          have H1 : (laws_FnDiskWrite.j0 k t360 t361 t371 t381 true t352 t355 t358 t359 t363 t366 t369 t370 t373 t376 t379 t380) = some true := by first | rfl | (rw [if_neg (show ¬ (false = true) by decide)] at H; exact H)
          clear H
          have H := H1
          clear H1
          have H' := Aside0.mk H
          clear H
          have hnb35 := NB372_362.out
          have hnc35 := NB362_372.out
          have hnb36 := NB372_382.out
          have hnc36 := NB382_372.out
          have hcz37_0 : w20.cell? ⟨gb372, 0, none⟩ = some (.slice Ao14 t363.length co14) := (qA BK372.out 0).trans rfl
          have hcz37_1 : w20.cell? ⟨gb372, 1, none⟩ = some (.slice Ao17 t366.length co17) := (qA BK372.out 1).trans rfl
          have hcz37_2 : w20.cell? ⟨gb372, 2, none⟩ = some (.int .i64 t369) := (qA BK372.out 2).trans rfl
          have hcz37_3 : w20.cell? ⟨gb372, 3, none⟩ = some (.int .i64 t370) := (qA BK372.out 3).trans rfl
          have hfz37_0 := qB BK372.out 0
          have hfz37_1 := qB BK372.out 1
          have hfz37_2 := qB BK372.out 2
          have hfz37_3 := qB BK372.out 3
          have hnb38 := NB382_362.out
          have hnc38 := NB362_382.out
          have hcz39_0 : w20.cell? ⟨gb382, 0, none⟩ = some (.slice none 0 0) := (qA BK382.out 0).trans rfl
          have hcz39_1 : w20.cell? ⟨gb382, 1, none⟩ = some (.slice none 0 0) := (qA BK382.out 1).trans rfl
          have hcz39_2 : w20.cell? ⟨gb382, 2, none⟩ = some (.int .i64 0) := (qA BK382.out 2).trans rfl
          have hcz39_3 : w20.cell? ⟨gb382, 3, none⟩ = some (.int .i64 0) := (qA BK382.out 3).trans rfl
          have hfz39_0 := qB BK382.out 0
          have hfz39_1 := qB BK382.out 1
          have hfz39_2 := qB BK382.out 2
          have hfz39_3 := qB BK382.out 3
          go_wp2_with (first | (go_at_call 13; (with_reducible refine (laws_jtDisk.calls k _ _ t363 _ _ t366 t369 t370 _ _ t373 _ _ t376 t379 t380 false _ ?side1 ?side2 ?side3 ?side4 ?side5 ?side6 ?side7 ?side8 A27.out).mono ?_); (case side1 => refine (Kd.zC (e := 9) (base := w.heap.size) (ok := fun k_ => ((True ∧ some k_ ≠ (.slice Ao9 t352.length co9 : Value).ownBlock) ∧ some k_ ≠ (.slice Ao21 t373.length co21 : Value).ownBlock)) (n := t363.length) (c := co14) ?_).2.2; exact (by (with_reducible repeat (first | apply Kd.qU | apply Kd.qT | apply Kd.qV)); exact (Kd.qS (Kd.R_far (p := ⟨gb382, 3, none⟩) (Kd.R_far (p := ⟨gb382, 2, none⟩) (Kd.R_far (p := ⟨gb382, 1, none⟩) (Kd.R_far (p := ⟨gb382, 0, none⟩) (Kd.qW HO365.out BK382.out (by decide)) (fun _ hk => hk.2) (.slice Ao21 t373.length co21)) (fun _ hk => hk.2) (.slice Ao25 t376.length co25)) (fun _ hk => hk.2) (.int .i64 t379)) (fun _ hk => hk.2) (.int .i64 t380)) (fun _ h_ => h_.1)))); (case side2 => exact (Kd.zC HO365.out).2.1); (case side3 => refine (Kd.zC (e := 70) (base := w.heap.size) (ok := fun k_ => ((True ∧ some k_ ≠ (.slice Ao11 t355.length co11 : Value).ownBlock) ∧ some k_ ≠ (.slice Ao25 t376.length co25 : Value).ownBlock)) (n := t366.length) (c := co17) ?_).2.2; exact (by (with_reducible repeat (first | apply Kd.qU | apply Kd.qT | apply Kd.qV)); exact (Kd.qS (Kd.R_far (p := ⟨gb382, 3, none⟩) (Kd.R_far (p := ⟨gb382, 2, none⟩) (Kd.R_far (p := ⟨gb382, 1, none⟩) (Kd.R_far (p := ⟨gb382, 0, none⟩) (Kd.qW HO368.out BK382.out (by decide)) (fun _ hk => hk.2) (.slice Ao21 t373.length co21)) (fun _ hk => hk.2) (.slice Ao25 t376.length co25)) (fun _ hk => hk.2) (.int .i64 t379)) (fun _ hk => hk.2) (.int .i64 t380)) (fun _ h_ => h_.1)))); (case side4 => exact (Kd.zC HO368.out).2.1); (case side5 => refine (Kd.zC (e := 9) (base := w.heap.size) (ok := fun k_ => ((True ∧ some k_ ≠ (.slice Ao9 t352.length co9 : Value).ownBlock) ∧ some k_ ≠ (.slice Ao14 t363.length co14 : Value).ownBlock)) (n := t373.length) (c := co21) ?_).2.2; exact (by (with_reducible repeat (first | apply Kd.qU | apply Kd.qT | apply Kd.qV)); exact (Kd.qS (Kd.R_far (p := ⟨gb382, 3, none⟩) (Kd.R_far (p := ⟨gb382, 2, none⟩) (Kd.R_far (p := ⟨gb382, 1, none⟩) (Kd.R_far (p := ⟨gb382, 0, none⟩) (Kd.qW HO375.out BK382.out (by decide)) (fun _ hk => hk.2) (.slice Ao21 t373.length co21)) (fun _ hk => hk.2) (.slice Ao25 t376.length co25)) (fun _ hk => hk.2) (.int .i64 t379)) (fun _ hk => hk.2) (.int .i64 t380)) (fun _ h_ => h_.1)))); (case side6 => exact (Kd.zC HO375.out).2.1); (case side7 => refine (Kd.zC (e := 70) (base := w.heap.size) (ok := fun k_ => ((True ∧ some k_ ≠ (.slice Ao11 t355.length co11 : Value).ownBlock) ∧ some k_ ≠ (.slice Ao17 t366.length co17 : Value).ownBlock)) (n := t376.length) (c := co25) ?_).2.2; exact (by (with_reducible repeat (first | apply Kd.qU | apply Kd.qT | apply Kd.qV)); exact (Kd.qS (Kd.R_far (p := ⟨gb382, 3, none⟩) (Kd.R_far (p := ⟨gb382, 2, none⟩) (Kd.R_far (p := ⟨gb382, 1, none⟩) (Kd.R_far (p := ⟨gb382, 0, none⟩) (Kd.qW HO378.out BK382.out (by decide)) (fun _ hk => hk.2) (.slice Ao21 t373.length co21)) (fun _ hk => hk.2) (.slice Ao25 t376.length co25)) (fun _ hk => hk.2) (.int .i64 t379)) (fun _ hk => hk.2) (.int .i64 t380)) (fun _ h_ => h_.1)))); (case side8 => exact (Kd.zC HO378.out).2.1); rintro e w40 ⟨rfl, hb⟩; have n0_ := Aside0.mk (Kd.zR (by (with_reducible repeat (first | apply Kd.zS | apply Kd.zT | apply Kd.zP)); exact (Kd.zU (Kd.Q_far (p := ⟨gb382, 3, none⟩) (Kd.Q_far (p := ⟨gb382, 2, none⟩) (Kd.Q_far (p := ⟨gb382, 1, none⟩) (Kd.Q_far (p := ⟨gb382, 0, none⟩) (Kd.zZ HO354.out BK382.out (by decide)) (fun _ hk => hk.2) (.slice Ao21 t373.length co21)) (fun _ hk => hk.2) (.slice Ao25 t376.length co25)) (fun _ hk => hk.2) (.int .i64 t379)) (fun _ hk => hk.2) (.int .i64 t380)) (fun _ h_ => h_.1))) hb); have n1_ := Aside0.mk (Kd.zB (by (with_reducible repeat (first | apply Kd.qU | apply Kd.qT | apply Kd.qV)); exact (Kd.qS (Kd.R_far (p := ⟨gb382, 3, none⟩) (Kd.R_far (p := ⟨gb382, 2, none⟩) (Kd.R_far (p := ⟨gb382, 1, none⟩) (Kd.R_far (p := ⟨gb382, 0, none⟩) (Kd.qW HO357.out BK382.out (by decide)) (fun _ hk => hk.2) (.slice Ao21 t373.length co21)) (fun _ hk => hk.2) (.slice Ao25 t376.length co25)) (fun _ hk => hk.2) (.int .i64 t379)) (fun _ hk => hk.2) (.int .i64 t380)) (fun _ h_ => h_.1))) hb); have n2_ := Aside0.mk (Kd.zB (by (with_reducible repeat (first | apply Kd.qU | apply Kd.qT | apply Kd.qV)); exact (Kd.qS (Kd.R_far (p := ⟨gb382, 3, none⟩) (Kd.R_far (p := ⟨gb382, 2, none⟩) (Kd.R_far (p := ⟨gb382, 1, none⟩) (Kd.R_far (p := ⟨gb382, 0, none⟩) (Kd.qW HO365.out BK382.out (by decide)) (fun _ hk => hk.2) (.slice Ao21 t373.length co21)) (fun _ hk => hk.2) (.slice Ao25 t376.length co25)) (fun _ hk => hk.2) (.int .i64 t379)) (fun _ hk => hk.2) (.int .i64 t380)) (fun _ h_ => h_.1))) hb); have n3_ := Aside0.mk (Kd.zB (by (with_reducible repeat (first | apply Kd.qU | apply Kd.qT | apply Kd.qV)); exact (Kd.qS (Kd.R_far (p := ⟨gb382, 3, none⟩) (Kd.R_far (p := ⟨gb382, 2, none⟩) (Kd.R_far (p := ⟨gb382, 1, none⟩) (Kd.R_far (p := ⟨gb382, 0, none⟩) (Kd.qW HO368.out BK382.out (by decide)) (fun _ hk => hk.2) (.slice Ao21 t373.length co21)) (fun _ hk => hk.2) (.slice Ao25 t376.length co25)) (fun _ hk => hk.2) (.int .i64 t379)) (fun _ hk => hk.2) (.int .i64 t380)) (fun _ h_ => h_.1))) hb); have n4_ := Aside0.mk (Kd.zB (by (with_reducible repeat (first | apply Kd.qU | apply Kd.qT | apply Kd.qV)); exact (Kd.qS (Kd.R_far (p := ⟨gb382, 3, none⟩) (Kd.R_far (p := ⟨gb382, 2, none⟩) (Kd.R_far (p := ⟨gb382, 1, none⟩) (Kd.R_far (p := ⟨gb382, 0, none⟩) (Kd.qW HO375.out BK382.out (by decide)) (fun _ hk => hk.2) (.slice Ao21 t373.length co21)) (fun _ hk => hk.2) (.slice Ao25 t376.length co25)) (fun _ hk => hk.2) (.int .i64 t379)) (fun _ hk => hk.2) (.int .i64 t380)) (fun _ h_ => h_.1))) hb); have n5_ := Aside0.mk (Kd.zB (by (with_reducible repeat (first | apply Kd.qU | apply Kd.qT | apply Kd.qV)); exact (Kd.qS (Kd.R_far (p := ⟨gb382, 3, none⟩) (Kd.R_far (p := ⟨gb382, 2, none⟩) (Kd.R_far (p := ⟨gb382, 1, none⟩) (Kd.R_far (p := ⟨gb382, 0, none⟩) (Kd.qW HO378.out BK382.out (by decide)) (fun _ hk => hk.2) (.slice Ao21 t373.length co21)) (fun _ hk => hk.2) (.slice Ao25 t376.length co25)) (fun _ hk => hk.2) (.int .i64 t379)) (fun _ hk => hk.2) (.int .i64 t380)) (fun _ h_ => h_.1))) hb); have n6_ := Aside0.mk (qL (g := gb362) (o := .cells #[.slice Ao9 t352.length co9, .slice Ao11 t355.length co11, .int .i64 t358, .int .i64 t359] 26 (0, 0)) (by (with_reducible repeat (first | refine qH ?_ _ | refine qI ?_ | refine qE ?_ _)); refine qR ?_ NB362_382.out _; (with_reducible repeat (first | refine qH ?_ _ | refine qI ?_ | refine qE ?_ _)); refine qR ?_ NB362_382.out _; (with_reducible repeat (first | refine qH ?_ _ | refine qI ?_ | refine qE ?_ _)); refine qR ?_ NB362_382.out _; (with_reducible repeat (first | refine qH ?_ _ | refine qI ?_ | refine qE ?_ _)); refine qR ?_ NB362_382.out _; (with_reducible repeat (first | refine qH ?_ _ | refine qI ?_ | refine qE ?_ _)); exact BK362.out) hb); have n7_ := Aside0.mk (qL (g := gb372) (o := .cells #[.slice Ao14 t363.length co14, .slice Ao17 t366.length co17, .int .i64 t369, .int .i64 t370] 26 (0, 0)) (by (with_reducible repeat (first | refine qH ?_ _ | refine qI ?_ | refine qE ?_ _)); refine qR ?_ NB372_382.out _; (with_reducible repeat (first | refine qH ?_ _ | refine qI ?_ | refine qE ?_ _)); refine qR ?_ NB372_382.out _; (with_reducible repeat (first | refine qH ?_ _ | refine qI ?_ | refine qE ?_ _)); refine qR ?_ NB372_382.out _; (with_reducible repeat (first | refine qH ?_ _ | refine qI ?_ | refine qE ?_ _)); refine qR ?_ NB372_382.out _; (with_reducible repeat (first | refine qH ?_ _ | refine qI ?_ | refine qE ?_ _)); exact BK372.out) hb); have n8_ := Aside0.mk (qL (g := gb382) (o := .cells #[.slice Ao21 t373.length co21, .slice Ao25 t376.length co25, .int .i64 t379, .int .i64 t380] 26 (0, 0)) (by (with_reducible repeat (first | refine qH ?_ _ | refine qI ?_ | refine qE ?_ _)); refine qN (cs := #[.slice Ao21 t373.length co21, .slice Ao25 t376.length co25, .int .i64 t379, .int .i64 0]) ?_ 3 _ rfl; (with_reducible repeat (first | refine qH ?_ _ | refine qI ?_ | refine qE ?_ _)); refine qN (cs := #[.slice Ao21 t373.length co21, .slice Ao25 t376.length co25, .int .i64 0, .int .i64 0]) ?_ 2 _ rfl; (with_reducible repeat (first | refine qH ?_ _ | refine qI ?_ | refine qE ?_ _)); refine qN (cs := #[.slice Ao21 t373.length co21, .slice none 0 0, .int .i64 0, .int .i64 0]) ?_ 1 _ rfl; (with_reducible repeat (first | refine qH ?_ _ | refine qI ?_ | refine qE ?_ _)); refine qN (cs := #[.slice none 0 0, .slice none 0 0, .int .i64 0, .int .i64 0]) ?_ 0 _ rfl; (with_reducible repeat (first | refine qH ?_ _ | refine qI ?_ | refine qE ?_ _)); exact BK382.out) hb); have n9_ := Aside0.mk (qQ (by repeat (first | (with_reducible first | exact HB.out | apply qG | apply qD | apply qF | refine qC ?_ GE362.out | refine qC ?_ GE372.out | refine qC ?_ GE382.out) | exact HB.out)) hb); clear HO354; clear HO357; clear HO365; clear HO368; clear HO375; clear HO378; clear BK362; clear BK372; clear BK382; clear HB; have HO354 := n0_; have HO357 := n1_; have HO365 := n2_; have HO368 := n3_; have HO375 := n4_; have HO378 := n5_; have BK362 := n6_; have BK372 := n7_; have BK382 := n8_; have HB := n9_; clear n0_ n1_ n2_ n3_ n4_ n5_ n6_ n7_ n8_ n9_; (try clear hb); (try clear hb2); (try clear hk); (try clear hi)))
          go_meet
          case rel => exact ⟨_, (true), (by first | rfl | (simp; done) | (simp [*]; done)), H', ⟨by first | omega | exact Nat.le_refl _⟩, ⟨by (with_reducible repeat (first | apply Kd.zS | apply Kd.zT | apply Kd.zP)); exact Kd.zU HO354.out (fun _ hk => ⟨hk.1.2, hk.2⟩)⟩, ⟨by (with_reducible repeat (first | apply Kd.qU | apply Kd.qT | apply Kd.qV)); exact Kd.qS HO357.out (fun _ hk => ⟨hk.1.2, hk.2⟩)⟩, ⟨Kd.Q_of_R (by (with_reducible repeat (first | apply Kd.qU | apply Kd.qT | apply Kd.qV)); exact Kd.qS HO365.out (fun _ hk => ⟨hk.1.2, hk.2⟩))⟩, ⟨by (with_reducible repeat (first | apply Kd.qU | apply Kd.qT | apply Kd.qV)); exact Kd.qS HO368.out (fun _ hk => ⟨hk.1.2, hk.2⟩)⟩, ⟨Kd.Q_of_R (by (with_reducible repeat (first | apply Kd.qU | apply Kd.qT | apply Kd.qV)); exact Kd.qS HO375.out (fun _ hk => ⟨hk.1.2, hk.2⟩))⟩, ⟨by (with_reducible repeat (first | apply Kd.qU | apply Kd.qT | apply Kd.qV)); exact Kd.qS HO378.out (fun _ hk => ⟨hk.1.2, hk.2⟩)⟩, ⟨by (with_reducible repeat (first | refine qH ?_ _ | refine qI ?_ | refine qE ?_ _)); exact BK362.out⟩, ⟨by (with_reducible repeat (first | refine qH ?_ _ | refine qI ?_ | refine qE ?_ _)); exact BK372.out⟩, ⟨by (with_reducible repeat (first | refine qH ?_ _ | refine qI ?_ | refine qE ?_ _)); exact BK382.out⟩, ⟨by repeat (first | (with_reducible first | exact HB.out | apply qG | apply qD | apply qF | refine qC ?_ GE362.out | refine qC ?_ GE372.out | refine qC ?_ GE382.out) | exact HB.out)⟩⟩
    case rest =>
      clear HC6
      try clear c1
      try clear c2
      try clear c2b0
      try clear c2b1
      try clear p2
      try clear c3
      try clear c5
      try clear c15
      try clear c16
      try clear c17
      try clear c18
      try clear c22
      try clear c23
      try clear c26
      try clear c26b0
      try clear c26b1
      try clear c26b2
      try clear c28
      try clear c29
      try clear c30
      try clear c32
      try clear c35
      try clear c36
      try clear c38
      try clear hcz10_0
      try clear hcz10_1
      try clear hcz10_2
      try clear hcz10_3
      try clear hcz16_0
      try clear hcz16_1
      try clear hcz16_2
      try clear hcz16_3
      try clear hcz18_0
      try clear hcz18_1
      try clear hcz18_2
      try clear hcz18_3
      try clear hcz24_0
      try clear hcz24_1
      try clear hcz24_2
      try clear hcz24_3
      try clear hcz31_0
      try clear hcz31_1
      try clear hcz31_2
      try clear hcz31_3
      try clear hcz33_0
      try clear hcz33_1
      try clear hcz33_2
      try clear hcz33_3
      try clear hcz37_0
      try clear hcz37_1
      try clear hcz37_2
      try clear hcz37_3
      try clear hcz39_0
      try clear hcz39_1
      try clear hcz39_2
      try clear hcz39_3
      try clear hfz10_0
      try clear hfz10_1
      try clear hfz10_2
      try clear hfz10_3
      try clear hfz16_0
      try clear hfz16_1
      try clear hfz16_2
      try clear hfz16_3
      try clear hfz18_0
      try clear hfz18_1
      try clear hfz18_2
      try clear hfz18_3
      try clear hfz24_0
      try clear hfz24_1
      try clear hfz24_2
      try clear hfz24_3
      try clear hfz31_0
      try clear hfz31_1
      try clear hfz31_2
      try clear hfz31_3
      try clear hfz33_0
      try clear hfz33_1
      try clear hfz33_2
      try clear hfz33_3
      try clear hfz37_0
      try clear hfz37_1
      try clear hfz37_2
      try clear hfz37_3
      try clear hfz39_0
      try clear hfz39_1
      try clear hfz39_2
      try clear hfz39_3
      obtain ⟨kq, x46_5, rfl, HA, HJ5, HO_363000, HO_363001, HO_373000, HO_373001, HO_383000, HO_383001, BK362, BK372, BK382, HB⟩ := hcut
      cases kq with
      | zero => exact absurd HA.out (by simp [laws_FnDiskWrite.j0])
      | succ kj5 =>
        have H := HA.out
        clear HA
        simp only [laws_FnDiskWrite.j0] at H
        by_cases c41 : x46_5 = true
        · subst c41
          have H1 : (if (t371 == t381) = true then ((laws_jtDisk.f kj5 t363 t366 t369 t370 t373 t376 t379 t380).bind fun t384 => (some t384)) else (some false)) = some true := by first | rfl | (rw [if_pos rfl] at H; exact H)
          clear H
          have H := H1
          clear H1
          by_cases c42 : (t371 == t381) = true
          · rw [if_pos c42] at H
            have c42b0 : (t371 == t381) = true := c42
            (try (have c42b1 : decide (t371 = t381) = true := by simpa using c42))
            (try (have c42b2 : (t371 == t381) = true := by simpa using c42))
            clear c42
            replace H := Option.bind_eq_some_iff.mp H
            obtain ⟨t384, A430, H⟩ := H
            replace H : (some t384) = some true := H
            have A43 := Aside0.mk A430
            clear A430
            have HT_ : t384 = true := Option.some.inj H
            clear H
            have hnb44 := NB372_362.out
            have hnc44 := NB362_372.out
            have hnb45 := NB372_382.out
            have hnc45 := NB382_372.out
            have hcz46_0 : wc.cell? ⟨gb372, 0, none⟩ = some (.slice Ao14 t363.length co14) := (qA BK372.out 0).trans rfl
            have hcz46_1 : wc.cell? ⟨gb372, 1, none⟩ = some (.slice Ao17 t366.length co17) := (qA BK372.out 1).trans rfl
            have hcz46_2 : wc.cell? ⟨gb372, 2, none⟩ = some (.int .i64 t369) := (qA BK372.out 2).trans rfl
            have hcz46_3 : wc.cell? ⟨gb372, 3, none⟩ = some (.int .i64 t370) := (qA BK372.out 3).trans rfl
            have hfz46_0 := qB BK372.out 0
            have hfz46_1 := qB BK372.out 1
            have hfz46_2 := qB BK372.out 2
            have hfz46_3 := qB BK372.out 3
            have hnb47 := NB382_362.out
            have hnc47 := NB362_382.out
            have hcz48_0 : wc.cell? ⟨gb382, 0, none⟩ = some (.slice Ao21 t373.length co21) := (qA BK382.out 0).trans rfl
            have hcz48_1 : wc.cell? ⟨gb382, 1, none⟩ = some (.slice Ao25 t376.length co25) := (qA BK382.out 1).trans rfl
            have hcz48_2 : wc.cell? ⟨gb382, 2, none⟩ = some (.int .i64 t379) := (qA BK382.out 2).trans rfl
            have hcz48_3 : wc.cell? ⟨gb382, 3, none⟩ = some (.int .i64 t380) := (qA BK382.out 3).trans rfl
            have hfz48_0 := qB BK382.out 0
            have hfz48_1 := qB BK382.out 1
            have hfz48_2 := qB BK382.out 2
            have hfz48_3 := qB BK382.out 3
            go_wp2_with (first | (go_at_call 13; (with_reducible refine (laws_jtDisk.calls kj5 _ _ t363 _ _ t366 t369 t370 _ _ t373 _ _ t376 t379 t380 t384 _ ?side1 ?side2 ?side3 ?side4 ?side5 ?side6 ?side7 ?side8 A43.out).mono ?_); (case side1 => repeat (first | exact (Kd.zQ HO_373000.out).2.2 | (with_reducible refine Kd.zF ?_ _) | (with_reducible refine Kd.zG ?_ _) | (with_reducible refine Kd.zL ?_))); (case side2 => exact (Kd.zQ HO_373000.out).2.1); (case side3 => repeat (first | exact (Kd.zC HO_373001.out).2.2 | (with_reducible refine Kd.zF ?_ _) | (with_reducible refine Kd.zG ?_ _) | (with_reducible refine Kd.zL ?_))); (case side4 => exact (Kd.zC HO_373001.out).2.1); (case side5 => repeat (first | exact (Kd.zQ HO_383000.out).2.2 | (with_reducible refine Kd.zF ?_ _) | (with_reducible refine Kd.zG ?_ _) | (with_reducible refine Kd.zL ?_))); (case side6 => exact (Kd.zQ HO_383000.out).2.1); (case side7 => repeat (first | exact (Kd.zC HO_383001.out).2.2 | (with_reducible refine Kd.zF ?_ _) | (with_reducible refine Kd.zG ?_ _) | (with_reducible refine Kd.zL ?_))); (case side8 => exact (Kd.zC HO_383001.out).2.1); rintro e w49 ⟨rfl, hb⟩; have n0_ := Aside0.mk (Kd.zR (qw_ HO_363000.out) hb); have n1_ := Aside0.mk (Kd.zB (rw_ HO_363001.out) hb); have n2_ := Aside0.mk (Kd.zR (qw_ HO_373000.out) hb); have n3_ := Aside0.mk (Kd.zB (rw_ HO_373001.out) hb); have n4_ := Aside0.mk (Kd.zR (qw_ HO_383000.out) hb); have n5_ := Aside0.mk (Kd.zB (rw_ HO_383001.out) hb); have n6_ := Aside0.mk (qL (g := gb362) (o := .cells #[.slice Ao9 t352.length co9, .slice Ao11 t355.length co11, .int .i64 t358, .int .i64 t359] 26 (0, 0)) (bw_ BK362.out) hb); have n7_ := Aside0.mk (qL (g := gb372) (o := .cells #[.slice Ao14 t363.length co14, .slice Ao17 t366.length co17, .int .i64 t369, .int .i64 t370] 26 (0, 0)) (bw_ BK372.out) hb); have n8_ := Aside0.mk (qL (g := gb382) (o := .cells #[.slice Ao21 t373.length co21, .slice Ao25 t376.length co25, .int .i64 t379, .int .i64 t380] 26 (0, 0)) (bw_ BK382.out) hb); have n9_ := Aside0.mk (qQ (by repeat (first | (with_reducible first | exact HB.out | apply qG | apply qD | apply qF | refine qC ?_ GE362.out | refine qC ?_ GE372.out | refine qC ?_ GE382.out) | exact HB.out)) hb); clear HO_363000; clear HO_363001; clear HO_373000; clear HO_373001; clear HO_383000; clear HO_383001; clear BK362; clear BK372; clear BK382; clear HB; have HO_363000 := n0_; have HO_363001 := n1_; have HO_373000 := n2_; have HO_373001 := n3_; have HO_383000 := n4_; have HO_383001 := n5_; have BK362 := n6_; have BK372 := n7_; have BK382 := n8_; have HB := n9_; clear n0_ n1_ n2_ n3_ n4_ n5_ n6_ n7_ n8_ n9_; (try clear hb); (try clear hb2); (try clear hk); (try clear hi)))
            go_ret
            exact ⟨by first | rfl | (simp [errW_none, errW_some] <;> rfl) | (simp [*, errW_none, errW_some] <;> rfl), by repeat (first | (with_reducible first | exact HB.out | apply qG | apply qD | apply qF | refine qC ?_ GE362.out | refine qC ?_ GE372.out | refine qC ?_ GE382.out) | exact HB.out)⟩
          · rw [if_neg c42] at H
            have c42b0 : (t371 == t381) = false := by simpa using c42
            (try (have c42b1 : decide (t371 = t381) = false := by simpa using c42))
            (try (have c42b2 : (t371 == t381) = false := by simpa using c42))
            (try (have c42b3 : ¬ (t371 = t381) := by simpa using c42))
            clear c42
            exact absurd H (by simp)
        · replace c41 := Bool.eq_false_iff.mpr c41
          subst c41
          have H1 : (if t359 = 0 then ((laws_jtDisk.f kj5 t363 t366 t369 t370 t352 t355 t358 t359).bind fun t385 => (some t385)) else (laws_FnDiskWrite.l0 kj5 t360 t361 0 t352 t355 t358 t359 t363 t366 t369 t370)) = some true := by first | rfl | (rw [if_neg (show ¬ (false = true) by decide)] at H; exact H)
          clear H
          have H := H1
          clear H1
          by_cases c50 : t359 = 0
          · rw [if_pos c50] at H
            have c50b0 : (t359 == 0) = true := beq_iff_eq.mpr c50
            have c50b1 : (t359 != 0) = false := bne_eq_false_iff_eq.mpr c50
            clear c50
            replace H := Option.bind_eq_some_iff.mp H
            obtain ⟨t385, A510, H⟩ := H
            replace H : (some t385) = some true := H
            have A51 := Aside0.mk A510
            clear A510
            have HT_ : t385 = true := Option.some.inj H
            clear H
            have hnb52 := NB362_372.out
            have hnc52 := NB372_362.out
            have hnb53 := NB362_382.out
            have hnc53 := NB382_362.out
            have hcz54_0 : wc.cell? ⟨gb362, 0, none⟩ = some (.slice Ao9 t352.length co9) := (qA BK362.out 0).trans rfl
            have hcz54_1 : wc.cell? ⟨gb362, 1, none⟩ = some (.slice Ao11 t355.length co11) := (qA BK362.out 1).trans rfl
            have hcz54_2 : wc.cell? ⟨gb362, 2, none⟩ = some (.int .i64 t358) := (qA BK362.out 2).trans rfl
            have hcz54_3 : wc.cell? ⟨gb362, 3, none⟩ = some (.int .i64 t359) := (qA BK362.out 3).trans rfl
            have hfz54_0 := qB BK362.out 0
            have hfz54_1 := qB BK362.out 1
            have hfz54_2 := qB BK362.out 2
            have hfz54_3 := qB BK362.out 3
            have hnb55 := NB372_382.out
            have hnc55 := NB382_372.out
            have hcz56_0 : wc.cell? ⟨gb372, 0, none⟩ = some (.slice Ao14 t363.length co14) := (qA BK372.out 0).trans rfl
            have hcz56_1 : wc.cell? ⟨gb372, 1, none⟩ = some (.slice Ao17 t366.length co17) := (qA BK372.out 1).trans rfl
            have hcz56_2 : wc.cell? ⟨gb372, 2, none⟩ = some (.int .i64 t369) := (qA BK372.out 2).trans rfl
            have hcz56_3 : wc.cell? ⟨gb372, 3, none⟩ = some (.int .i64 t370) := (qA BK372.out 3).trans rfl
            have hfz56_0 := qB BK372.out 0
            have hfz56_1 := qB BK372.out 1
            have hfz56_2 := qB BK372.out 2
            have hfz56_3 := qB BK372.out 3
            go_wp2_with (first | ((with_reducible refine qX (f := 13) rfl ?_); refine zM (some 60) rfl rfl Try.func13 (by kernel_rfl) rfl #[.agg #[.slice Ao14 t363.length co14, .slice Ao17 t366.length co17, .int .i64 t369, .int .i64 t370], .agg #[.slice Ao9 t352.length co9, .slice Ao11 t355.length co11, .int .i64 t358, .int .i64 t359]] rfl (by (try simp only [List.map_toArray, List.map_cons, List.map_nil]); first | done | rfl | (simp only [List.length_drop, List.length_take]; rfl)) ?_; (with_reducible refine (laws_jtDisk.calls kj5 _ _ t363 _ _ t366 t369 t370 _ _ t352 _ _ t355 t358 t359 t385 _ ?side1 ?side2 ?side3 ?side4 ?side5 ?side6 ?side7 ?side8 A51.out).mono ?_); (case side1 => repeat (first | exact (Kd.zQ HO_373000.out).2.2 | (with_reducible refine Kd.zF ?_ _) | (with_reducible refine Kd.zG ?_ _) | (with_reducible refine Kd.zL ?_))); (case side2 => exact (Kd.zQ HO_373000.out).2.1); (case side3 => repeat (first | exact (Kd.zC HO_373001.out).2.2 | (with_reducible refine Kd.zF ?_ _) | (with_reducible refine Kd.zG ?_ _) | (with_reducible refine Kd.zL ?_))); (case side4 => exact (Kd.zC HO_373001.out).2.1); (case side5 => repeat (first | exact (Kd.zQ HO_363000.out).2.2 | (with_reducible refine Kd.zF ?_ _) | (with_reducible refine Kd.zG ?_ _) | (with_reducible refine Kd.zL ?_))); (case side6 => exact (Kd.zQ HO_363000.out).2.1); (case side7 => repeat (first | exact (Kd.zC HO_363001.out).2.2 | (with_reducible refine Kd.zF ?_ _) | (with_reducible refine Kd.zG ?_ _) | (with_reducible refine Kd.zL ?_))); (case side8 => exact (Kd.zC HO_363001.out).2.1); rintro e w57 ⟨rfl, hb⟩; refine ⟨_, rfl, ?_⟩; have n0_ := Aside0.mk (Kd.zR (qw_ HO_363000.out) hb); have n1_ := Aside0.mk (Kd.zB (rw_ HO_363001.out) hb); have n2_ := Aside0.mk (Kd.zR (qw_ HO_373000.out) hb); have n3_ := Aside0.mk (Kd.zB (rw_ HO_373001.out) hb); have n4_ := Aside0.mk (Kd.zR (qw_ HO_383000.out) hb); have n5_ := Aside0.mk (Kd.zB (rw_ HO_383001.out) hb); have n6_ := Aside0.mk (qL (g := gb362) (o := .cells #[.slice Ao9 t352.length co9, .slice Ao11 t355.length co11, .int .i64 t358, .int .i64 t359] 26 (0, 0)) (bw_ BK362.out) hb); have n7_ := Aside0.mk (qL (g := gb372) (o := .cells #[.slice Ao14 t363.length co14, .slice Ao17 t366.length co17, .int .i64 t369, .int .i64 t370] 26 (0, 0)) (bw_ BK372.out) hb); have n8_ := Aside0.mk (qL (g := gb382) (o := .cells #[.slice Ao21 t373.length co21, .slice Ao25 t376.length co25, .int .i64 t379, .int .i64 t380] 26 (0, 0)) (bw_ BK382.out) hb); have n9_ := Aside0.mk (qQ (by repeat (first | (with_reducible first | exact HB.out | apply qG | apply qD | apply qF | refine qC ?_ GE362.out | refine qC ?_ GE372.out | refine qC ?_ GE382.out) | exact HB.out)) hb); clear HO_363000; clear HO_363001; clear HO_373000; clear HO_373001; clear HO_383000; clear HO_383001; clear BK362; clear BK372; clear BK382; clear HB; have HO_363000 := n0_; have HO_363001 := n1_; have HO_373000 := n2_; have HO_373001 := n3_; have HO_383000 := n4_; have HO_383001 := n5_; have BK362 := n6_; have BK372 := n7_; have BK382 := n8_; have HB := n9_; clear n0_ n1_ n2_ n3_ n4_ n5_ n6_ n7_ n8_ n9_; (try clear hb); (try clear hb2); (try clear hk); (try clear hi)))
            go_ret
            exact ⟨by first | rfl | (simp [errW_none, errW_some] <;> rfl) | (simp [*, errW_none, errW_some] <;> rfl), by repeat (first | (with_reducible first | exact HB.out | apply qG | apply qD | apply qF | refine qC ?_ GE362.out | refine qC ?_ GE372.out | refine qC ?_ GE382.out) | exact HB.out)⟩
          · rw [if_neg c50] at H
            have c50b0 : (t359 == 0) = false := beq_eq_false_iff_ne.mpr c50
            have c50b1 : (t359 != 0) = true := bne_iff_ne.mpr c50
            have H' := Aside0.mk H
            clear H
            have hnb58 := NB362_372.out
            have hnc58 := NB372_362.out
            have hnb59 := NB362_382.out
            have hnc59 := NB382_362.out
            have hcz60_0 : wc.cell? ⟨gb362, 0, none⟩ = some (.slice Ao9 t352.length co9) := (qA BK362.out 0).trans rfl
            have hcz60_1 : wc.cell? ⟨gb362, 1, none⟩ = some (.slice Ao11 t355.length co11) := (qA BK362.out 1).trans rfl
            have hcz60_2 : wc.cell? ⟨gb362, 2, none⟩ = some (.int .i64 t358) := (qA BK362.out 2).trans rfl
            have hcz60_3 : wc.cell? ⟨gb362, 3, none⟩ = some (.int .i64 t359) := (qA BK362.out 3).trans rfl
            have hfz60_0 := qB BK362.out 0
            have hfz60_1 := qB BK362.out 1
            have hfz60_2 := qB BK362.out 2
            have hfz60_3 := qB BK362.out 3
            go_wp2
            go_loopg [10] kj5 (fun kq v10 w' => ∃ (x10_2 : Int), v10 = .int .i64 x10_2 ∧ Aside0 (laws_FnDiskWrite.l0 kq t360 t361 x10_2 t352 t355 t358 t359 t363 t366 t369 t370 = some true) ∧ Aside0 (kq ≤ kj5) ∧ Aside0 (Kd.Q Kd.string 9 w' w.heap.size (fun k_ => some k_ ≠ ((.slice Ao14 t363.length co14) : Value).ownBlock ∧ some k_ ≠ ((.slice Ao21 t373.length co21) : Value).ownBlock) (.slice Ao9 t352.length co9) t352) ∧ Aside0 (Kd.R k70 70 w' w.heap.size (fun k_ => some k_ ≠ ((.slice Ao17 t366.length co17) : Value).ownBlock ∧ some k_ ≠ ((.slice Ao25 t376.length co25) : Value).ownBlock) (.slice Ao11 t355.length co11) t355) ∧ Aside0 (Kd.Q Kd.string 9 w' w.heap.size (fun k_ => some k_ ≠ ((.slice Ao9 t352.length co9) : Value).ownBlock ∧ some k_ ≠ ((.slice Ao21 t373.length co21) : Value).ownBlock) (.slice Ao14 t363.length co14) t363) ∧ Aside0 (Kd.R k70 70 w' w.heap.size (fun k_ => some k_ ≠ ((.slice Ao11 t355.length co11) : Value).ownBlock ∧ some k_ ≠ ((.slice Ao25 t376.length co25) : Value).ownBlock) (.slice Ao17 t366.length co17) t366) ∧ Aside0 (Kd.Q Kd.string 9 w' w.heap.size (fun k_ => some k_ ≠ ((.slice Ao9 t352.length co9) : Value).ownBlock ∧ some k_ ≠ ((.slice Ao14 t363.length co14) : Value).ownBlock) (.slice Ao21 t373.length co21) t373) ∧ Aside0 (Kd.R k70 70 w' w.heap.size (fun k_ => some k_ ≠ ((.slice Ao11 t355.length co11) : Value).ownBlock ∧ some k_ ≠ ((.slice Ao17 t366.length co17) : Value).ownBlock) (.slice Ao25 t376.length co25) t376) ∧ Aside0 (w'.heap[gb362]? = some (.cells #[(.slice Ao9 t352.length co9), (.slice Ao11 t355.length co11), .int .i64 t358, .int .i64 t359] 26 (0, 0))) ∧ Aside0 (w'.heap[gb372]? = some (.cells #[(.slice Ao14 t363.length co14), (.slice Ao17 t366.length co17), .int .i64 t369, .int .i64 t370] 26 (0, 0))) ∧ Aside0 (w'.heap[gb382]? = some (.cells #[(.slice Ao21 t373.length co21), (.slice Ao25 t376.length co25), .int .i64 t379, .int .i64 t380] 26 (0, 0))) ∧ Aside0 (Below w.heap.size w w'))
            case atStart => exact ⟨(0), (by first | rfl | (simp; done) | (simp [*]; done)), H', ⟨Nat.le_refl _⟩, ⟨by (with_reducible repeat (first | apply Kd.zS | apply Kd.zT | apply Kd.zP)); exact HO_363000.out⟩, ⟨by (with_reducible repeat (first | apply Kd.qU | apply Kd.qT | apply Kd.qV)); exact HO_363001.out⟩, ⟨by (with_reducible repeat (first | apply Kd.zS | apply Kd.zT | apply Kd.zP)); exact HO_373000.out⟩, ⟨by (with_reducible repeat (first | apply Kd.qU | apply Kd.qT | apply Kd.qV)); exact HO_373001.out⟩, ⟨by (with_reducible repeat (first | apply Kd.zS | apply Kd.zT | apply Kd.zP)); exact HO_383000.out⟩, ⟨by (with_reducible repeat (first | apply Kd.qU | apply Kd.qT | apply Kd.qV)); exact HO_383001.out⟩, ⟨by (with_reducible repeat (first | refine qH ?_ _ | refine qI ?_ | refine qE ?_ _)); exact BK362.out⟩, ⟨by (with_reducible repeat (first | refine qH ?_ _ | refine qI ?_ | refine qE ?_ _)); exact BK372.out⟩, ⟨by (with_reducible repeat (first | refine qH ?_ _ | refine qI ?_ | refine qE ?_ _)); exact BK382.out⟩, ⟨by repeat (first | (with_reducible first | exact HB.out | apply qG | apply qD | apply qF | refine qC ?_ GE362.out | refine qC ?_ GE372.out | refine qC ?_ GE382.out) | exact HB.out)⟩⟩
            case round =>
              clear H'
              try clear c1
              try clear c2
              try clear c2b0
              try clear c2b1
              try clear p2
              try clear c3
              try clear c4
              try clear c5
              try clear c13
              try clear c15
              try clear c16
              try clear c17
              try clear c18
              try clear c22
              try clear c23
              try clear c26
              try clear c26b0
              try clear c26b1
              try clear c26b2
              try clear c28
              try clear c29
              try clear c30
              try clear c32
              try clear c35
              try clear c36
              try clear c38
              try clear c41
              try clear c42
              try clear c42b0
              try clear c42b1
              try clear c42b2
              try clear c44
              try clear c45
              try clear c47
              try clear c50
              try clear c50b0
              try clear c50b1
              try clear c52
              try clear c53
              try clear c55
              try clear c58
              try clear c59
              try clear hcz10_0
              try clear hcz10_1
              try clear hcz10_2
              try clear hcz10_3
              try clear hcz16_0
              try clear hcz16_1
              try clear hcz16_2
              try clear hcz16_3
              try clear hcz18_0
              try clear hcz18_1
              try clear hcz18_2
              try clear hcz18_3
              try clear hcz24_0
              try clear hcz24_1
              try clear hcz24_2
              try clear hcz24_3
              try clear hcz31_0
              try clear hcz31_1
              try clear hcz31_2
              try clear hcz31_3
              try clear hcz33_0
              try clear hcz33_1
              try clear hcz33_2
              try clear hcz33_3
              try clear hcz37_0
              try clear hcz37_1
              try clear hcz37_2
              try clear hcz37_3
              try clear hcz39_0
              try clear hcz39_1
              try clear hcz39_2
              try clear hcz39_3
              try clear hcz46_0
              try clear hcz46_1
              try clear hcz46_2
              try clear hcz46_3
              try clear hcz48_0
              try clear hcz48_1
              try clear hcz48_2
              try clear hcz48_3
              try clear hcz54_0
              try clear hcz54_1
              try clear hcz54_2
              try clear hcz54_3
              try clear hcz56_0
              try clear hcz56_1
              try clear hcz56_2
              try clear hcz56_3
              try clear hcz60_0
              try clear hcz60_1
              try clear hcz60_2
              try clear hcz60_3
              try clear hfz10_0
              try clear hfz10_1
              try clear hfz10_2
              try clear hfz10_3
              try clear hfz16_0
              try clear hfz16_1
              try clear hfz16_2
              try clear hfz16_3
              try clear hfz18_0
              try clear hfz18_1
              try clear hfz18_2
              try clear hfz18_3
              try clear hfz24_0
              try clear hfz24_1
              try clear hfz24_2
              try clear hfz24_3
              try clear hfz31_0
              try clear hfz31_1
              try clear hfz31_2
              try clear hfz31_3
              try clear hfz33_0
              try clear hfz33_1
              try clear hfz33_2
              try clear hfz33_3
              try clear hfz37_0
              try clear hfz37_1
              try clear hfz37_2
              try clear hfz37_3
              try clear hfz39_0
              try clear hfz39_1
              try clear hfz39_2
              try clear hfz39_3
              try clear hfz46_0
              try clear hfz46_1
              try clear hfz46_2
              try clear hfz46_3
              try clear hfz48_0
              try clear hfz48_1
              try clear hfz48_2
              try clear hfz48_3
              try clear hfz54_0
              try clear hfz54_1
              try clear hfz54_2
              try clear hfz54_3
              try clear hfz56_0
              try clear hfz56_1
              try clear hfz56_2
              try clear hfz56_3
              try clear hfz60_0
              try clear hfz60_1
              try clear hfz60_2
              try clear hfz60_3
              try clear p2
              obtain ⟨x10_2, rfl, HA, HK2, HO_363000, HO_363001, HO_373000, HO_373001, HO_383000, HO_383001, BK362, BK372, BK382, HB⟩ := hrel
              cases gk with
              | zero => exact absurd HA.out (by simp [laws_FnDiskWrite.l0])
              | succ k2 =>
                have H := HA.out
                clear HA
                simp only [laws_FnDiskWrite.l0] at H
                by_cases c61 : x10_2 < 42
                · rw [if_pos c61] at H
                  have c61b0 : decide (x10_2 < 42) = true := decide_eq_true c61
                  clear c61
                  by_cases c62 : x10_2 = t360
                  · rw [if_pos c62] at H
                    have c62b0 : (x10_2 == t360) = true := beq_iff_eq.mpr c62
                    have c62b1 : (x10_2 != t360) = false := bne_eq_false_iff_eq.mpr c62
                    clear c62
                    replace H := Option.bind_eq_some_iff.mp H
                    obtain ⟨t388, A630, H⟩ := H
                    replace H : (if t388.toList = t361.toList then (laws_FnDiskWrite.l0 k2 t360 t361 (wrap64 (x10_2 + 1)) t352 t355 t358 t359 t363 t366 t369 t370) else (some false)) = some true := H
                    have A63 := Aside0.mk A630
                    clear A630
                    by_cases c64 : t388.toList = t361.toList
                    · rw [if_pos c64] at H
                      have c64b0 : (t388.toList == t361.toList) = true := beq_iff_eq.mpr c64
                      have c64b1 : (t388.toList != t361.toList) = false := bne_eq_false_iff_eq.mpr c64
                      clear c64
                      have H' := Aside0.mk H
                      clear H
                      try go_wp2
                      have n0_ := Aside0.mk (Kd.zP HO_363000.out)
                      have n1_ := Aside0.mk (Kd.qV HO_363001.out)
                      have n2_ := Aside0.mk (Kd.zP HO_373000.out)
                      have n3_ := Aside0.mk (Kd.qV HO_373001.out)
                      have n4_ := Aside0.mk (Kd.zP HO_383000.out)
                      have n5_ := Aside0.mk (Kd.qV HO_383001.out)
                      have n6_ := Aside0.mk (qI BK362.out)
                      have n7_ := Aside0.mk (qI BK372.out)
                      have n8_ := Aside0.mk (qI BK382.out)
                      have n9_ := Aside0.mk (qF HB.out)
                      clear HO_363000
                      clear HO_363001
                      clear HO_373000
                      clear HO_373001
                      clear HO_383000
                      clear HO_383001
                      clear BK362
                      clear BK372
                      clear BK382
                      clear HB
                      have HO_363000 := n0_
                      have HO_363001 := n1_
                      have HO_373000 := n2_
                      have HO_373001 := n3_
                      have HO_383000 := n4_
                      have HO_383001 := n5_
                      have BK362 := n6_
                      have BK372 := n7_
                      have BK382 := n8_
                      have HB := n9_
                      clear n0_ n1_ n2_ n3_ n4_ n5_ n6_ n7_ n8_ n9_
                      refine start_ (n := 24) (S := fun w' => w'.cell? ⟨gb372, 0, none⟩ = some (.slice Ao14 t363.length co14) ∧ w'.cell? ⟨gb372, 1, none⟩ = some (.slice Ao17 t366.length co17) ∧ w'.cell? ⟨gb372, 2, none⟩ = some (.int .i64 t369) ∧ w'.cell? ⟨gb372, 3, none⟩ = some (.int .i64 t370)) (ds := []) #[false, false, false, false, false, false, false, false, false, false, false, false, false, false, false, false, false, false, false, false, false, false, false, false] (by kernel_rfl) rfl rfl ⟨(qA BK372.out 0).trans rfl, (qA BK372.out 1).trans rfl, (qA BK372.out 2).trans rfl, (qA BK372.out 3).trans rfl⟩ (fun hHeld => ?_); refine with_tabW laws_FnDiskWrite.tab13 laws_FnDiskWrite.bits13 (fun HT_ HW_ => ?_)
                      generalize wr.drew = w65 at HO_363000 HO_363001 HO_373000 HO_373001 HO_383000 HO_383001 BK362 BK372 BK382 HB hHeld ⊢
                      refine pure_ (i := 0) (N := some 65) (v := ?_) (a' := ?_) #[true, false, false, false, false, false, false, false, false, false, false, false, false, false, false, false, false, false, false, false, false, false, false, false] rfl rfl (zI HT_.out (by kernel_rfl)) (fun _ _ _ h => h) (Or.inl ⟨by rfl, ?_⟩) ?_ ?_
                      rotate_left
                      · intro w'
                        go_simp
                        with_reducible rfl
                      rotate_left
                      · simp only [Act.put, List.setIfInBounds_toArray, List.set_cons_zero, List.set_cons_succ, i64_w, i32_w]
                        rfl
                      refine pure_ (i := 1) (N := some 66) (v := ?_) (a' := ?_) #[true, true, false, false, false, false, false, false, false, false, false, false, false, false, false, false, false, false, false, false, false, false, false, false] rfl rfl (zI HT_.out (by kernel_rfl)) (fun _ _ _ h => h) (Or.inl ⟨by rfl, ?_⟩) ?_ ?_
                      rotate_left
                      · intro w'
                        go_simp
                        with_reducible rfl
                      rotate_left
                      · simp only [Act.put, List.setIfInBounds_toArray, List.set_cons_zero, List.set_cons_succ, i64_w, i32_w]
                        rfl
                      refine pure_ (i := 2) (N := some 67) (v := ?_) (a' := ?_) #[true, true, true, false, false, false, false, false, false, false, false, false, false, false, false, false, false, false, false, false, false, false, false, false] rfl rfl (zI HT_.out (by kernel_rfl)) (fun _ _ _ h => h) (Or.inl ⟨by rfl, ?_⟩) ?_ ?_
                      rotate_left
                      · intro w'
                        go_simp
                        with_reducible rfl
                      rotate_left
                      · simp only [Act.put, List.setIfInBounds_toArray, List.set_cons_zero, List.set_cons_succ, i64_w, i32_w]
                        rfl
                      refine pure_ (i := 3) (N := some 68) (v := ?_) (a' := ?_) #[true, true, true, true, false, false, false, false, false, false, false, false, false, false, false, false, false, false, false, false, false, false, false, false] rfl rfl (zI HT_.out (by kernel_rfl)) (fun _ _ _ h => h) (Or.inl ⟨by rfl, ?_⟩) ?_ ?_
                      rotate_left
                      · intro w'
                        go_simp
                        with_reducible rfl
                      rotate_left
                      · simp only [Act.put, List.setIfInBounds_toArray, List.set_cons_zero, List.set_cons_succ, i64_w, i32_w]
                        rfl
                      refine pure_ (i := 5) (N := some 70) (v := ?_) (a' := ?_) #[true, true, true, true, false, true, false, false, false, false, false, false, false, false, false, false, false, false, false, false, false, false, false, false] rfl rfl (zI HT_.out (by kernel_rfl)) (fun _ _ _ h => h) (Or.inl ⟨by rfl, ?_⟩) ?_ ?_
                      rotate_left
                      · intro w'
                        go_simp
                        with_reducible rfl
                      rotate_left
                      · simp only [Act.put, List.setIfInBounds_toArray, List.set_cons_zero, List.set_cons_succ, i64_w, i32_w]
                        rfl
                      refine pure_ (i := 7) (N := some 72) (v := ?_) (a' := ?_) #[true, true, true, true, false, true, false, true, false, false, false, false, false, false, false, false, false, false, false, false, false, false, false, false] rfl rfl (zI HT_.out (by kernel_rfl)) (fun _ _ _ h => h) (Or.inl ⟨by rfl, ?_⟩) ?_ ?_
                      rotate_left
                      · intro w'
                        go_simp
                        with_reducible rfl
                      rotate_left
                      · simp only [Act.put, List.setIfInBounds_toArray, List.set_cons_zero, List.set_cons_succ, i64_w, i32_w]
                        rfl
                      refine take_ (i := 4) (N := some 69) (v := ?_) (a' := ?_) #[true, true, true, true, true, true, false, true, false, false, false, false, false, false, false, false, false, false, false, false, false, false, false, false] rfl rfl (zX HT_.out HW_.out (by kernel_rfl)) (fun _ _ _ h => h) (Or.inl ⟨by rfl, ?_⟩) hHeld ?_ ?_
                      rotate_left
                      · rintro w' ⟨s0, s1, s2, s3⟩
                        go_simp
                        with_reducible rfl
                      rotate_left
                      · simp only [Act.put, List.setIfInBounds_toArray, List.set_cons_zero, List.set_cons_succ, i64_w, i32_w]
                        rfl
                      refine one_ (i := 6) (N := some 71) #[true, true, true, true, true, true, true, true, false, false, false, false, false, false, false, false, false, false, false, false, false, false, false, false] rfl rfl (zW HT_.out (by kernel_rfl)) (by decide) (fun K hK => ?_)
                      refine goes_ Try.func21 (by kernel_rfl) rfl #[.agg #[.slice Ao14 t363.length co14, .slice Ao17 t366.length co17, .int .i64 t369, .int .i64 t370], .int .i64 x10_2] (by rfl) rfl rfl (by (try simp only [List.map_toArray, List.map_cons, List.map_nil]); first | done | rfl | (simp only [List.length_drop, List.length_take]; rfl)) ?_
                      with_reducible refine (impl_DiskRead.calls _ _ t363 _ _ t366 t369 t370 x10_2 t388 _ ?side1 ?side2 ?side3 ?side4 A63.out).mono ?_
                      (case side1 => repeat (first | exact (Kd.zQ HO_373000.out).2.2 | (with_reducible refine Kd.zF ?_ _) | (with_reducible refine Kd.zG ?_ _) | (with_reducible refine Kd.zL ?_)))
                      (case side2 => exact (Kd.zQ HO_373000.out).2.1)
                      (case side3 => repeat (first | exact (Kd.zC HO_373001.out).2.2 | (with_reducible refine Kd.zF ?_ _) | (with_reducible refine Kd.zG ?_ _) | (with_reducible refine Kd.zL ?_)))
                      (case side4 => exact (Kd.zC HO_373001.out).2.1)
                      rintro e w66 ⟨rfl, hb⟩
                      refine ⟨_, rfl, ?_⟩
                      have n0_ := Aside0.mk (Kd.zR (qw_ HO_363000.out) hb)
                      have n1_ := Aside0.mk (Kd.zB (rw_ HO_363001.out) hb)
                      have n2_ := Aside0.mk (Kd.zR (qw_ HO_373000.out) hb)
                      have n3_ := Aside0.mk (Kd.zB (rw_ HO_373001.out) hb)
                      have n4_ := Aside0.mk (Kd.zR (qw_ HO_383000.out) hb)
                      have n5_ := Aside0.mk (Kd.zB (rw_ HO_383001.out) hb)
                      have n6_ := Aside0.mk (qL (g := gb362) (o := .cells #[.slice Ao9 t352.length co9, .slice Ao11 t355.length co11, .int .i64 t358, .int .i64 t359] 26 (0, 0)) (bw_ BK362.out) hb)
                      have n7_ := Aside0.mk (qL (g := gb372) (o := .cells #[.slice Ao14 t363.length co14, .slice Ao17 t366.length co17, .int .i64 t369, .int .i64 t370] 26 (0, 0)) (bw_ BK372.out) hb)
                      have n8_ := Aside0.mk (qL (g := gb382) (o := .cells #[.slice Ao21 t373.length co21, .slice Ao25 t376.length co25, .int .i64 t379, .int .i64 t380] 26 (0, 0)) (bw_ BK382.out) hb)
                      have n9_ := Aside0.mk (qQ (by repeat (first | (with_reducible first | exact HB.out | apply qG | apply qD | apply qF | refine qC ?_ GE362.out | refine qC ?_ GE372.out | refine qC ?_ GE382.out) | exact HB.out)) hb)
                      clear HO_363000
                      clear HO_363001
                      clear HO_373000
                      clear HO_373001
                      clear HO_383000
                      clear HO_383001
                      clear BK362
                      clear BK372
                      clear BK382
                      clear HB
                      have HO_363000 := n0_
                      have HO_363001 := n1_
                      have HO_373000 := n2_
                      have HO_373001 := n3_
                      have HO_383000 := n4_
                      have HO_383001 := n5_
                      have BK362 := n6_
                      have BK372 := n7_
                      have BK382 := n8_
                      have HB := n9_
                      clear n0_ n1_ n2_ n3_ n4_ n5_ n6_ n7_ n8_ n9_
                      (try clear hb)
                      (try clear hb2)
                      (try clear hk)
                      (try clear hi)
                      refine hK.out _ _ ⟨(qA BK372.out 0).trans rfl, (qA BK372.out 1).trans rfl, (qA BK372.out 2).trans rfl, (qA BK372.out 3).trans rfl⟩ (fun hHeld => ?_)
                      clear hK K
                      refine norm_ (a' := ?_) ?_ ?_
                      rotate_left
                      · show Act.put _ (some 71) _ = _
                        simp only [Act.put, List.setIfInBounds_toArray, List.set_cons_zero, List.set_cons_succ, i64_w, i32_w]
                        rfl
                      refine pure_ (i := 8) (N := some 73) (v := ?_) (a' := ?_) #[true, true, true, true, true, true, true, true, true, false, false, false, false, false, false, false, false, false, false, false, false, false, false, false] rfl rfl (zI HT_.out (by kernel_rfl)) (fun _ _ _ h => h) (Or.inl ⟨by rfl, ?_⟩) ?_ ?_
                      rotate_left
                      · intro w'
                        go_simp
                        with_reducible rfl
                      rotate_left
                      · simp only [Act.put, List.setIfInBounds_toArray, List.set_cons_zero, List.set_cons_succ, i64_w, i32_w]
                        rfl
                      refine pure_ (i := 9) (N := some 74) (v := ?_) (a' := ?_) #[true, true, true, true, true, true, true, true, true, true, false, false, false, false, false, false, false, false, false, false, false, false, false, false] rfl rfl (zI HT_.out (by kernel_rfl)) (fun _ _ _ h => h) (Or.inl ⟨by rfl, ?_⟩) ?_ ?_
                      rotate_left
                      · intro w'
                        go_simp
                        with_reducible rfl
                      rotate_left
                      · simp only [Act.put, List.setIfInBounds_toArray, List.set_cons_zero, List.set_cons_succ, i64_w, i32_w]
                        rfl
                      refine pure_ (i := 10) (N := some 75) (v := ?_) (a' := ?_) #[true, true, true, true, true, true, true, true, true, true, true, false, false, false, false, false, false, false, false, false, false, false, false, false] rfl rfl (zI HT_.out (by kernel_rfl)) (fun _ _ _ h => h) (Or.inl ⟨by rfl, ?_⟩) ?_ ?_
                      rotate_left
                      · intro w'
                        go_simp
                        with_reducible rfl
                      rotate_left
                      · simp only [Act.put, List.setIfInBounds_toArray, List.set_cons_zero, List.set_cons_succ, i64_w, i32_w]
                        rfl
                      refine pure_ (i := 11) (N := some 76) (v := ?_) (a' := ?_) #[true, true, true, true, true, true, true, true, true, true, true, true, false, false, false, false, false, false, false, false, false, false, false, false] rfl rfl (zI HT_.out (by kernel_rfl)) (fun _ _ _ h => h) (Or.inl ⟨by rfl, ?_⟩) ?_ ?_
                      rotate_left
                      · intro w'
                        go_simp
                        with_reducible rfl
                      rotate_left
                      · simp only [Act.put, List.setIfInBounds_toArray, List.set_cons_zero, List.set_cons_succ, i64_w, i32_w]
                        rfl
                      refine pure_ (i := 12) (N := some 77) (v := ?_) (a' := ?_) #[true, true, true, true, true, true, true, true, true, true, true, true, true, false, false, false, false, false, false, false, false, false, false, false] rfl rfl (zI HT_.out (by kernel_rfl)) (fun _ _ _ h => h) (Or.inl ⟨by rfl, ?_⟩) ?_ ?_
                      rotate_left
                      · intro w'
                        go_simp
                        with_reducible rfl
                      rotate_left
                      · simp only [Act.put, List.setIfInBounds_toArray, List.set_cons_zero, List.set_cons_succ, i64_w, i32_w]
                        rfl
                      refine pure_ (i := 13) (N := some 78) (v := ?_) (a' := ?_) #[true, true, true, true, true, true, true, true, true, true, true, true, true, true, false, false, false, false, false, false, false, false, false, false] rfl rfl (zI HT_.out (by kernel_rfl)) (fun _ _ _ h => h) (Or.inl ⟨by rfl, ?_⟩) ?_ ?_
                      rotate_left
                      · intro w'
                        go_simp
                        with_reducible rfl
                      rotate_left
                      · simp only [Act.put, List.setIfInBounds_toArray, List.set_cons_zero, List.set_cons_succ, i64_w, i32_w]
                        rfl
                      refine pure_ (i := 14) (N := some 79) (v := ?_) (a' := ?_) #[true, true, true, true, true, true, true, true, true, true, true, true, true, true, true, false, false, false, false, false, false, false, false, false] rfl rfl (zI HT_.out (by kernel_rfl)) (fun _ _ _ h => h) (Or.inl ⟨by rfl, ?_⟩) ?_ ?_
                      rotate_left
                      · intro w'
                        go_simp
                        with_reducible rfl
                      rotate_left
                      · simp only [Act.put, List.setIfInBounds_toArray, List.set_cons_zero, List.set_cons_succ, i64_w, i32_w]
                        rfl
                      refine pure_ (i := 15) (N := some 80) (v := undef) (a' := ?_) #[true, true, true, true, true, true, true, true, true, true, true, true, true, true, true, true, false, false, false, false, false, false, false, false] rfl rfl (zI HT_.out (by kernel_rfl)) (fun _ _ _ h => h) (Or.inr ⟨by rfl, rfl⟩) ?_ ?_
                      rotate_left
                      · simp only [Act.put, List.setIfInBounds_toArray, List.set_cons_zero, List.set_cons_succ, i64_w, i32_w]
                        rfl
                      refine pure_ (i := 16) (N := some 81) (v := undef) (a' := ?_) #[true, true, true, true, true, true, true, true, true, true, true, true, true, true, true, true, true, false, false, false, false, false, false, false] rfl rfl (zI HT_.out (by kernel_rfl)) (fun _ _ _ h => h) (Or.inr ⟨by rfl, rfl⟩) ?_ ?_
                      rotate_left
                      · simp only [Act.put, List.setIfInBounds_toArray, List.set_cons_zero, List.set_cons_succ, i64_w, i32_w]
                        rfl
                      refine pure_ (i := 17) (N := some 82) (v := undef) (a' := ?_) #[true, true, true, true, true, true, true, true, true, true, true, true, true, true, true, true, true, true, false, false, false, false, false, false] rfl rfl (zI HT_.out (by kernel_rfl)) (fun _ _ _ h => h) (Or.inr ⟨by rfl, rfl⟩) ?_ ?_
                      rotate_left
                      · simp only [Act.put, List.setIfInBounds_toArray, List.set_cons_zero, List.set_cons_succ, i64_w, i32_w]
                        rfl
                      refine pure_ (i := 18) (N := some 83) (v := undef) (a' := ?_) #[true, true, true, true, true, true, true, true, true, true, true, true, true, true, true, true, true, true, true, false, false, false, false, false] rfl rfl (zI HT_.out (by kernel_rfl)) (fun _ _ _ h => h) (Or.inr ⟨by rfl, rfl⟩) ?_ ?_
                      rotate_left
                      · simp only [Act.put, List.setIfInBounds_toArray, List.set_cons_zero, List.set_cons_succ, i64_w, i32_w]
                        rfl
                      refine pure_ (i := 19) (N := some 84) (v := undef) (a' := ?_) #[true, true, true, true, true, true, true, true, true, true, true, true, true, true, true, true, true, true, true, true, false, false, false, false] rfl rfl (zI HT_.out (by kernel_rfl)) (fun _ _ _ h => h) (Or.inr ⟨by rfl, rfl⟩) ?_ ?_
                      rotate_left
                      · simp only [Act.put, List.setIfInBounds_toArray, List.set_cons_zero, List.set_cons_succ, i64_w, i32_w]
                        rfl
                      refine pure_ (i := 20) (N := some 85) (v := undef) (a' := ?_) #[true, true, true, true, true, true, true, true, true, true, true, true, true, true, true, true, true, true, true, true, true, false, false, false] rfl rfl (zI HT_.out (by kernel_rfl)) (fun _ _ _ h => h) (Or.inr ⟨by rfl, rfl⟩) ?_ ?_
                      rotate_left
                      · simp only [Act.put, List.setIfInBounds_toArray, List.set_cons_zero, List.set_cons_succ, i64_w, i32_w]
                        rfl
                      refine pure_ (i := 21) (N := some 86) (v := undef) (a' := ?_) #[true, true, true, true, true, true, true, true, true, true, true, true, true, true, true, true, true, true, true, true, true, true, false, false] rfl rfl (zI HT_.out (by kernel_rfl)) (fun _ _ _ h => h) (Or.inr ⟨by rfl, rfl⟩) ?_ ?_
                      rotate_left
                      · simp only [Act.put, List.setIfInBounds_toArray, List.set_cons_zero, List.set_cons_succ, i64_w, i32_w]
                        rfl
                      refine pure_ (i := 22) (N := some 87) (v := ?_) (a' := ?_) #[true, true, true, true, true, true, true, true, true, true, true, true, true, true, true, true, true, true, true, true, true, true, true, false] rfl rfl (zI HT_.out (by kernel_rfl)) (fun _ _ _ h => h) (Or.inl ⟨by rfl, ?_⟩) ?_ ?_
                      rotate_left
                      · intro w'
                        go_simp
                        with_reducible rfl
                      rotate_left
                      · simp only [Act.put, List.setIfInBounds_toArray, List.set_cons_zero, List.set_cons_succ, i64_w, i32_w]
                        rfl
                      refine pure_ (i := 23) (N := some 88) (v := ?_) (a' := ?_) #[true, true, true, true, true, true, true, true, true, true, true, true, true, true, true, true, true, true, true, true, true, true, true, true] rfl rfl (zI HT_.out (by kernel_rfl)) (fun _ _ _ h => h) (Or.inl ⟨by rfl, ?_⟩) ?_ ?_
                      rotate_left
                      · intro w'
                        go_simp
                        with_reducible rfl
                      rotate_left
                      · simp only [Act.put, List.setIfInBounds_toArray, List.set_cons_zero, List.set_cons_succ, i64_w, i32_w]
                        rfl
                      refine done_ (done_of HT_.out (by kernel_rfl)) ?_
                      try go_wp2
                      go_roundg k2
                      case measure => have := HJ5.out; have := HK2.out; omega
                      case rel => exact ⟨(wrap64 (x10_2 + 1)), (by first | rfl | (simp; done) | (simp [*]; done)), H', ⟨by have := HJ5.out; have := HK2.out; omega⟩, ⟨by (with_reducible repeat (first | apply Kd.zS | apply Kd.zT | apply Kd.zP)); exact HO_363000.out⟩, ⟨by (with_reducible repeat (first | apply Kd.qU | apply Kd.qT | apply Kd.qV)); exact HO_363001.out⟩, ⟨by (with_reducible repeat (first | apply Kd.zS | apply Kd.zT | apply Kd.zP)); exact HO_373000.out⟩, ⟨by (with_reducible repeat (first | apply Kd.qU | apply Kd.qT | apply Kd.qV)); exact HO_373001.out⟩, ⟨by (with_reducible repeat (first | apply Kd.zS | apply Kd.zT | apply Kd.zP)); exact HO_383000.out⟩, ⟨by (with_reducible repeat (first | apply Kd.qU | apply Kd.qT | apply Kd.qV)); exact HO_383001.out⟩, ⟨by (with_reducible repeat (first | refine qH ?_ _ | refine qI ?_ | refine qE ?_ _)); exact BK362.out⟩, ⟨by (with_reducible repeat (first | refine qH ?_ _ | refine qI ?_ | refine qE ?_ _)); exact BK372.out⟩, ⟨by (with_reducible repeat (first | refine qH ?_ _ | refine qI ?_ | refine qE ?_ _)); exact BK382.out⟩, ⟨by repeat (first | (with_reducible first | exact HB.out | apply qG | apply qD | apply qF | refine qC ?_ GE362.out | refine qC ?_ GE372.out | refine qC ?_ GE382.out) | exact HB.out)⟩⟩
                    · rw [if_neg c64] at H
                      have c64b0 : (t388.toList == t361.toList) = false := beq_eq_false_iff_ne.mpr c64
                      have c64b1 : (t388.toList != t361.toList) = true := bne_iff_ne.mpr c64
                      exact absurd H (by simp)
                  · rw [if_neg c62] at H
                    have c62b0 : (x10_2 == t360) = false := beq_eq_false_iff_ne.mpr c62
                    have c62b1 : (x10_2 != t360) = true := bne_iff_ne.mpr c62
                    replace H := Option.bind_eq_some_iff.mp H
                    obtain ⟨t389, A670, H⟩ := H
                    replace H : ((impl_DiskRead.f t352 t355 t358 t359 x10_2).bind fun t390 => (if t389.toList = t390.toList then (laws_FnDiskWrite.l0 k2 t360 t361 (wrap64 (x10_2 + 1)) t352 t355 t358 t359 t363 t366 t369 t370) else (some false))) = some true := H
                    have A67 := Aside0.mk A670
                    clear A670
                    replace H := Option.bind_eq_some_iff.mp H
                    obtain ⟨t390, A680, H⟩ := H
                    replace H : (if t389.toList = t390.toList then (laws_FnDiskWrite.l0 k2 t360 t361 (wrap64 (x10_2 + 1)) t352 t355 t358 t359 t363 t366 t369 t370) else (some false)) = some true := H
                    have A68 := Aside0.mk A680
                    clear A680
                    by_cases c69 : t389.toList = t390.toList
                    · rw [if_pos c69] at H
                      have c69b0 : (t389.toList == t390.toList) = true := beq_iff_eq.mpr c69
                      have c69b1 : (t389.toList != t390.toList) = false := bne_eq_false_iff_eq.mpr c69
                      clear c69
                      have H' := Aside0.mk H
                      clear H
                      try go_wp2
                      have n0_ := Aside0.mk (Kd.zP HO_363000.out)
                      have n1_ := Aside0.mk (Kd.qV HO_363001.out)
                      have n2_ := Aside0.mk (Kd.zP HO_373000.out)
                      have n3_ := Aside0.mk (Kd.qV HO_373001.out)
                      have n4_ := Aside0.mk (Kd.zP HO_383000.out)
                      have n5_ := Aside0.mk (Kd.qV HO_383001.out)
                      have n6_ := Aside0.mk (qI BK362.out)
                      have n7_ := Aside0.mk (qI BK372.out)
                      have n8_ := Aside0.mk (qI BK382.out)
                      have n9_ := Aside0.mk (qF HB.out)
                      clear HO_363000
                      clear HO_363001
                      clear HO_373000
                      clear HO_373001
                      clear HO_383000
                      clear HO_383001
                      clear BK362
                      clear BK372
                      clear BK382
                      clear HB
                      have HO_363000 := n0_
                      have HO_363001 := n1_
                      have HO_373000 := n2_
                      have HO_373001 := n3_
                      have HO_383000 := n4_
                      have HO_383001 := n5_
                      have BK362 := n6_
                      have BK372 := n7_
                      have BK382 := n8_
                      have HB := n9_
                      clear n0_ n1_ n2_ n3_ n4_ n5_ n6_ n7_ n8_ n9_
                      refine start_ (n := 24) (S := fun w' => w'.cell? ⟨gb372, 0, none⟩ = some (.slice Ao14 t363.length co14) ∧ w'.cell? ⟨gb372, 1, none⟩ = some (.slice Ao17 t366.length co17) ∧ w'.cell? ⟨gb372, 2, none⟩ = some (.int .i64 t369) ∧ w'.cell? ⟨gb372, 3, none⟩ = some (.int .i64 t370) ∧ w'.cell? ⟨gb362, 0, none⟩ = some (.slice Ao9 t352.length co9) ∧ w'.cell? ⟨gb362, 1, none⟩ = some (.slice Ao11 t355.length co11) ∧ w'.cell? ⟨gb362, 2, none⟩ = some (.int .i64 t358) ∧ w'.cell? ⟨gb362, 3, none⟩ = some (.int .i64 t359)) (ds := []) #[false, false, false, false, false, false, false, false, false, false, false, false, false, false, false, false, false, false, false, false, false, false, false, false] (by kernel_rfl) rfl rfl ⟨(qA BK372.out 0).trans rfl, (qA BK372.out 1).trans rfl, (qA BK372.out 2).trans rfl, (qA BK372.out 3).trans rfl, (qA BK362.out 0).trans rfl, (qA BK362.out 1).trans rfl, (qA BK362.out 2).trans rfl, (qA BK362.out 3).trans rfl⟩ (fun hHeld => ?_); refine with_tabW laws_FnDiskWrite.tab13 laws_FnDiskWrite.bits13 (fun HT_ HW_ => ?_)
                      generalize wr.drew = w70 at HO_363000 HO_363001 HO_373000 HO_373001 HO_383000 HO_383001 BK362 BK372 BK382 HB hHeld ⊢
                      refine pure_ (i := 0) (N := some 65) (v := ?_) (a' := ?_) #[true, false, false, false, false, false, false, false, false, false, false, false, false, false, false, false, false, false, false, false, false, false, false, false] rfl rfl (zI HT_.out (by kernel_rfl)) (fun _ _ _ h => h) (Or.inl ⟨by rfl, ?_⟩) ?_ ?_
                      rotate_left
                      · intro w'
                        go_simp
                        with_reducible rfl
                      rotate_left
                      · simp only [Act.put, List.setIfInBounds_toArray, List.set_cons_zero, List.set_cons_succ, i64_w, i32_w]
                        rfl
                      refine pure_ (i := 1) (N := some 66) (v := ?_) (a' := ?_) #[true, true, false, false, false, false, false, false, false, false, false, false, false, false, false, false, false, false, false, false, false, false, false, false] rfl rfl (zI HT_.out (by kernel_rfl)) (fun _ _ _ h => h) (Or.inl ⟨by rfl, ?_⟩) ?_ ?_
                      rotate_left
                      · intro w'
                        go_simp
                        with_reducible rfl
                      rotate_left
                      · simp only [Act.put, List.setIfInBounds_toArray, List.set_cons_zero, List.set_cons_succ, i64_w, i32_w]
                        rfl
                      refine pure_ (i := 2) (N := some 67) (v := ?_) (a' := ?_) #[true, true, true, false, false, false, false, false, false, false, false, false, false, false, false, false, false, false, false, false, false, false, false, false] rfl rfl (zI HT_.out (by kernel_rfl)) (fun _ _ _ h => h) (Or.inl ⟨by rfl, ?_⟩) ?_ ?_
                      rotate_left
                      · intro w'
                        go_simp
                        with_reducible rfl
                      rotate_left
                      · simp only [Act.put, List.setIfInBounds_toArray, List.set_cons_zero, List.set_cons_succ, i64_w, i32_w]
                        rfl
                      refine pure_ (i := 3) (N := some 68) (v := ?_) (a' := ?_) #[true, true, true, true, false, false, false, false, false, false, false, false, false, false, false, false, false, false, false, false, false, false, false, false] rfl rfl (zI HT_.out (by kernel_rfl)) (fun _ _ _ h => h) (Or.inl ⟨by rfl, ?_⟩) ?_ ?_
                      rotate_left
                      · intro w'
                        go_simp
                        with_reducible rfl
                      rotate_left
                      · simp only [Act.put, List.setIfInBounds_toArray, List.set_cons_zero, List.set_cons_succ, i64_w, i32_w]
                        rfl
                      refine pure_ (i := 4) (N := some 69) (v := undef) (a' := ?_) #[true, true, true, true, true, false, false, false, false, false, false, false, false, false, false, false, false, false, false, false, false, false, false, false] rfl rfl (zI HT_.out (by kernel_rfl)) (fun _ _ _ h => h) (Or.inr ⟨by rfl, rfl⟩) ?_ ?_
                      rotate_left
                      · simp only [Act.put, List.setIfInBounds_toArray, List.set_cons_zero, List.set_cons_succ, i64_w, i32_w]
                        rfl
                      refine pure_ (i := 5) (N := some 70) (v := undef) (a' := ?_) #[true, true, true, true, true, true, false, false, false, false, false, false, false, false, false, false, false, false, false, false, false, false, false, false] rfl rfl (zI HT_.out (by kernel_rfl)) (fun _ _ _ h => h) (Or.inr ⟨by rfl, rfl⟩) ?_ ?_
                      rotate_left
                      · simp only [Act.put, List.setIfInBounds_toArray, List.set_cons_zero, List.set_cons_succ, i64_w, i32_w]
                        rfl
                      refine pure_ (i := 6) (N := some 71) (v := undef) (a' := ?_) #[true, true, true, true, true, true, true, false, false, false, false, false, false, false, false, false, false, false, false, false, false, false, false, false] rfl rfl (zI HT_.out (by kernel_rfl)) (fun _ _ _ h => h) (Or.inr ⟨by rfl, rfl⟩) ?_ ?_
                      rotate_left
                      · simp only [Act.put, List.setIfInBounds_toArray, List.set_cons_zero, List.set_cons_succ, i64_w, i32_w]
                        rfl
                      refine pure_ (i := 7) (N := some 72) (v := undef) (a' := ?_) #[true, true, true, true, true, true, true, true, false, false, false, false, false, false, false, false, false, false, false, false, false, false, false, false] rfl rfl (zI HT_.out (by kernel_rfl)) (fun _ _ _ h => h) (Or.inr ⟨by rfl, rfl⟩) ?_ ?_
                      rotate_left
                      · simp only [Act.put, List.setIfInBounds_toArray, List.set_cons_zero, List.set_cons_succ, i64_w, i32_w]
                        rfl
                      refine pure_ (i := 8) (N := some 73) (v := undef) (a' := ?_) #[true, true, true, true, true, true, true, true, true, false, false, false, false, false, false, false, false, false, false, false, false, false, false, false] rfl rfl (zI HT_.out (by kernel_rfl)) (fun _ _ _ h => h) (Or.inr ⟨by rfl, rfl⟩) ?_ ?_
                      rotate_left
                      · simp only [Act.put, List.setIfInBounds_toArray, List.set_cons_zero, List.set_cons_succ, i64_w, i32_w]
                        rfl
                      refine pure_ (i := 9) (N := some 74) (v := ?_) (a' := ?_) #[true, true, true, true, true, true, true, true, true, true, false, false, false, false, false, false, false, false, false, false, false, false, false, false] rfl rfl (zI HT_.out (by kernel_rfl)) (fun _ _ _ h => h) (Or.inl ⟨by rfl, ?_⟩) ?_ ?_
                      rotate_left
                      · intro w'
                        go_simp
                        with_reducible rfl
                      rotate_left
                      · simp only [Act.put, List.setIfInBounds_toArray, List.set_cons_zero, List.set_cons_succ, i64_w, i32_w]
                        rfl
                      refine pure_ (i := 10) (N := some 75) (v := ?_) (a' := ?_) #[true, true, true, true, true, true, true, true, true, true, true, false, false, false, false, false, false, false, false, false, false, false, false, false] rfl rfl (zI HT_.out (by kernel_rfl)) (fun _ _ _ h => h) (Or.inl ⟨by rfl, ?_⟩) ?_ ?_
                      rotate_left
                      · intro w'
                        go_simp
                        with_reducible rfl
                      rotate_left
                      · simp only [Act.put, List.setIfInBounds_toArray, List.set_cons_zero, List.set_cons_succ, i64_w, i32_w]
                        rfl
                      refine pure_ (i := 11) (N := some 76) (v := ?_) (a' := ?_) #[true, true, true, true, true, true, true, true, true, true, true, true, false, false, false, false, false, false, false, false, false, false, false, false] rfl rfl (zI HT_.out (by kernel_rfl)) (fun _ _ _ h => h) (Or.inl ⟨by rfl, ?_⟩) ?_ ?_
                      rotate_left
                      · intro w'
                        go_simp
                        with_reducible rfl
                      rotate_left
                      · simp only [Act.put, List.setIfInBounds_toArray, List.set_cons_zero, List.set_cons_succ, i64_w, i32_w]
                        rfl
                      refine pure_ (i := 12) (N := some 77) (v := ?_) (a' := ?_) #[true, true, true, true, true, true, true, true, true, true, true, true, true, false, false, false, false, false, false, false, false, false, false, false] rfl rfl (zI HT_.out (by kernel_rfl)) (fun _ _ _ h => h) (Or.inl ⟨by rfl, ?_⟩) ?_ ?_
                      rotate_left
                      · intro w'
                        go_simp
                        with_reducible rfl
                      rotate_left
                      · simp only [Act.put, List.setIfInBounds_toArray, List.set_cons_zero, List.set_cons_succ, i64_w, i32_w]
                        rfl
                      refine pure_ (i := 13) (N := some 78) (v := ?_) (a' := ?_) #[true, true, true, true, true, true, true, true, true, true, true, true, true, true, false, false, false, false, false, false, false, false, false, false] rfl rfl (zI HT_.out (by kernel_rfl)) (fun _ _ _ h => h) (Or.inl ⟨by rfl, ?_⟩) ?_ ?_
                      rotate_left
                      · intro w'
                        go_simp
                        with_reducible rfl
                      rotate_left
                      · simp only [Act.put, List.setIfInBounds_toArray, List.set_cons_zero, List.set_cons_succ, i64_w, i32_w]
                        rfl
                      refine pure_ (i := 14) (N := some 79) (v := ?_) (a' := ?_) #[true, true, true, true, true, true, true, true, true, true, true, true, true, true, true, false, false, false, false, false, false, false, false, false] rfl rfl (zI HT_.out (by kernel_rfl)) (fun _ _ _ h => h) (Or.inl ⟨by rfl, ?_⟩) ?_ ?_
                      rotate_left
                      · intro w'
                        go_simp
                        with_reducible rfl
                      rotate_left
                      · simp only [Act.put, List.setIfInBounds_toArray, List.set_cons_zero, List.set_cons_succ, i64_w, i32_w]
                        rfl
                      refine pure_ (i := 16) (N := some 81) (v := ?_) (a' := ?_) #[true, true, true, true, true, true, true, true, true, true, true, true, true, true, true, false, true, false, false, false, false, false, false, false] rfl rfl (zI HT_.out (by kernel_rfl)) (fun _ _ _ h => h) (Or.inl ⟨by rfl, ?_⟩) ?_ ?_
                      rotate_left
                      · intro w'
                        go_simp
                        with_reducible rfl
                      rotate_left
                      · simp only [Act.put, List.setIfInBounds_toArray, List.set_cons_zero, List.set_cons_succ, i64_w, i32_w]
                        rfl
                      refine pure_ (i := 19) (N := some 84) (v := ?_) (a' := ?_) #[true, true, true, true, true, true, true, true, true, true, true, true, true, true, true, false, true, false, false, true, false, false, false, false] rfl rfl (zI HT_.out (by kernel_rfl)) (fun _ _ _ h => h) (Or.inl ⟨by rfl, ?_⟩) ?_ ?_
                      rotate_left
                      · intro w'
                        go_simp
                        with_reducible rfl
                      rotate_left
                      · simp only [Act.put, List.setIfInBounds_toArray, List.set_cons_zero, List.set_cons_succ, i64_w, i32_w]
                        rfl
                      refine take_ (i := 15) (N := some 80) (v := ?_) (a' := ?_) #[true, true, true, true, true, true, true, true, true, true, true, true, true, true, true, true, true, false, false, true, false, false, false, false] rfl rfl (zX HT_.out HW_.out (by kernel_rfl)) (fun _ _ _ h => h) (Or.inl ⟨by rfl, ?_⟩) hHeld ?_ ?_
                      rotate_left
                      · rintro w' ⟨s0, s1, s2, s3, s4, s5, s6, s7⟩
                        go_simp
                        with_reducible rfl
                      rotate_left
                      · simp only [Act.put, List.setIfInBounds_toArray, List.set_cons_zero, List.set_cons_succ, i64_w, i32_w]
                        rfl
                      refine take_ (i := 18) (N := some 83) (v := ?_) (a' := ?_) #[true, true, true, true, true, true, true, true, true, true, true, true, true, true, true, true, true, false, true, true, false, false, false, false] rfl rfl (zX HT_.out HW_.out (by kernel_rfl)) (fun _ _ _ h => h) (Or.inl ⟨by rfl, ?_⟩) hHeld ?_ ?_
                      rotate_left
                      · rintro w' ⟨s0, s1, s2, s3, s4, s5, s6, s7⟩
                        go_simp
                        with_reducible rfl
                      rotate_left
                      · simp only [Act.put, List.setIfInBounds_toArray, List.set_cons_zero, List.set_cons_succ, i64_w, i32_w]
                        rfl
                      refine one_ (i := 17) (N := some 82) #[true, true, true, true, true, true, true, true, true, true, true, true, true, true, true, true, true, true, true, true, false, false, false, false] rfl rfl (zW HT_.out (by kernel_rfl)) (by decide) (fun K hK => ?_)
                      refine goes_ Try.func21 (by kernel_rfl) rfl #[.agg #[.slice Ao14 t363.length co14, .slice Ao17 t366.length co17, .int .i64 t369, .int .i64 t370], .int .i64 x10_2] (by rfl) rfl rfl (by (try simp only [List.map_toArray, List.map_cons, List.map_nil]); first | done | rfl | (simp only [List.length_drop, List.length_take]; rfl)) ?_
                      with_reducible refine (impl_DiskRead.calls _ _ t363 _ _ t366 t369 t370 x10_2 t389 _ ?side1 ?side2 ?side3 ?side4 A67.out).mono ?_
                      (case side1 => repeat (first | exact (Kd.zQ HO_373000.out).2.2 | (with_reducible refine Kd.zF ?_ _) | (with_reducible refine Kd.zG ?_ _) | (with_reducible refine Kd.zL ?_)))
                      (case side2 => exact (Kd.zQ HO_373000.out).2.1)
                      (case side3 => repeat (first | exact (Kd.zC HO_373001.out).2.2 | (with_reducible refine Kd.zF ?_ _) | (with_reducible refine Kd.zG ?_ _) | (with_reducible refine Kd.zL ?_)))
                      (case side4 => exact (Kd.zC HO_373001.out).2.1)
                      rintro e w71 ⟨rfl, hb⟩
                      refine ⟨_, rfl, ?_⟩
                      have n0_ := Aside0.mk (Kd.zR (qw_ HO_363000.out) hb)
                      have n1_ := Aside0.mk (Kd.zB (rw_ HO_363001.out) hb)
                      have n2_ := Aside0.mk (Kd.zR (qw_ HO_373000.out) hb)
                      have n3_ := Aside0.mk (Kd.zB (rw_ HO_373001.out) hb)
                      have n4_ := Aside0.mk (Kd.zR (qw_ HO_383000.out) hb)
                      have n5_ := Aside0.mk (Kd.zB (rw_ HO_383001.out) hb)
                      have n6_ := Aside0.mk (qL (g := gb362) (o := .cells #[.slice Ao9 t352.length co9, .slice Ao11 t355.length co11, .int .i64 t358, .int .i64 t359] 26 (0, 0)) (bw_ BK362.out) hb)
                      have n7_ := Aside0.mk (qL (g := gb372) (o := .cells #[.slice Ao14 t363.length co14, .slice Ao17 t366.length co17, .int .i64 t369, .int .i64 t370] 26 (0, 0)) (bw_ BK372.out) hb)
                      have n8_ := Aside0.mk (qL (g := gb382) (o := .cells #[.slice Ao21 t373.length co21, .slice Ao25 t376.length co25, .int .i64 t379, .int .i64 t380] 26 (0, 0)) (bw_ BK382.out) hb)
                      have n9_ := Aside0.mk (qQ (by repeat (first | (with_reducible first | exact HB.out | apply qG | apply qD | apply qF | refine qC ?_ GE362.out | refine qC ?_ GE372.out | refine qC ?_ GE382.out) | exact HB.out)) hb)
                      clear HO_363000
                      clear HO_363001
                      clear HO_373000
                      clear HO_373001
                      clear HO_383000
                      clear HO_383001
                      clear BK362
                      clear BK372
                      clear BK382
                      clear HB
                      have HO_363000 := n0_
                      have HO_363001 := n1_
                      have HO_373000 := n2_
                      have HO_373001 := n3_
                      have HO_383000 := n4_
                      have HO_383001 := n5_
                      have BK362 := n6_
                      have BK372 := n7_
                      have BK382 := n8_
                      have HB := n9_
                      clear n0_ n1_ n2_ n3_ n4_ n5_ n6_ n7_ n8_ n9_
                      (try clear hb)
                      (try clear hb2)
                      (try clear hk)
                      (try clear hi)
                      refine hK.out _ _ ⟨(qA BK372.out 0).trans rfl, (qA BK372.out 1).trans rfl, (qA BK372.out 2).trans rfl, (qA BK372.out 3).trans rfl, (qA BK362.out 0).trans rfl, (qA BK362.out 1).trans rfl, (qA BK362.out 2).trans rfl, (qA BK362.out 3).trans rfl⟩ (fun hHeld => ?_)
                      clear hK K
                      refine norm_ (a' := ?_) ?_ ?_
                      rotate_left
                      · show Act.put _ (some 82) _ = _
                        simp only [Act.put, List.setIfInBounds_toArray, List.set_cons_zero, List.set_cons_succ, i64_w, i32_w]
                        rfl
                      refine one_ (i := 20) (N := some 85) #[true, true, true, true, true, true, true, true, true, true, true, true, true, true, true, true, true, true, true, true, true, false, false, false] rfl rfl (zW HT_.out (by kernel_rfl)) (by decide) (fun K hK => ?_)
                      refine goes_ Try.func21 (by kernel_rfl) rfl #[.agg #[.slice Ao9 t352.length co9, .slice Ao11 t355.length co11, .int .i64 t358, .int .i64 t359], .int .i64 x10_2] (by rfl) rfl rfl (by (try simp only [List.map_toArray, List.map_cons, List.map_nil]); first | done | rfl | (simp only [List.length_drop, List.length_take]; rfl)) ?_
                      with_reducible refine (impl_DiskRead.calls _ _ t352 _ _ t355 t358 t359 x10_2 t390 _ ?side1 ?side2 ?side3 ?side4 A68.out).mono ?_
                      (case side1 => repeat (first | exact (Kd.zQ HO_363000.out).2.2 | (with_reducible refine Kd.zF ?_ _) | (with_reducible refine Kd.zG ?_ _) | (with_reducible refine Kd.zL ?_)))
                      (case side2 => exact (Kd.zQ HO_363000.out).2.1)
                      (case side3 => repeat (first | exact (Kd.zC HO_363001.out).2.2 | (with_reducible refine Kd.zF ?_ _) | (with_reducible refine Kd.zG ?_ _) | (with_reducible refine Kd.zL ?_)))
                      (case side4 => exact (Kd.zC HO_363001.out).2.1)
                      rintro e w72 ⟨rfl, hb⟩
                      refine ⟨_, rfl, ?_⟩
                      have n0_ := Aside0.mk (Kd.zR (qw_ HO_363000.out) hb)
                      have n1_ := Aside0.mk (Kd.zB (rw_ HO_363001.out) hb)
                      have n2_ := Aside0.mk (Kd.zR (qw_ HO_373000.out) hb)
                      have n3_ := Aside0.mk (Kd.zB (rw_ HO_373001.out) hb)
                      have n4_ := Aside0.mk (Kd.zR (qw_ HO_383000.out) hb)
                      have n5_ := Aside0.mk (Kd.zB (rw_ HO_383001.out) hb)
                      have n6_ := Aside0.mk (qL (g := gb362) (o := .cells #[.slice Ao9 t352.length co9, .slice Ao11 t355.length co11, .int .i64 t358, .int .i64 t359] 26 (0, 0)) (bw_ BK362.out) hb)
                      have n7_ := Aside0.mk (qL (g := gb372) (o := .cells #[.slice Ao14 t363.length co14, .slice Ao17 t366.length co17, .int .i64 t369, .int .i64 t370] 26 (0, 0)) (bw_ BK372.out) hb)
                      have n8_ := Aside0.mk (qL (g := gb382) (o := .cells #[.slice Ao21 t373.length co21, .slice Ao25 t376.length co25, .int .i64 t379, .int .i64 t380] 26 (0, 0)) (bw_ BK382.out) hb)
                      have n9_ := Aside0.mk (qQ (by repeat (first | (with_reducible first | exact HB.out | apply qG | apply qD | apply qF | refine qC ?_ GE362.out | refine qC ?_ GE372.out | refine qC ?_ GE382.out) | exact HB.out)) hb)
                      clear HO_363000
                      clear HO_363001
                      clear HO_373000
                      clear HO_373001
                      clear HO_383000
                      clear HO_383001
                      clear BK362
                      clear BK372
                      clear BK382
                      clear HB
                      have HO_363000 := n0_
                      have HO_363001 := n1_
                      have HO_373000 := n2_
                      have HO_373001 := n3_
                      have HO_383000 := n4_
                      have HO_383001 := n5_
                      have BK362 := n6_
                      have BK372 := n7_
                      have BK382 := n8_
                      have HB := n9_
                      clear n0_ n1_ n2_ n3_ n4_ n5_ n6_ n7_ n8_ n9_
                      (try clear hb)
                      (try clear hb2)
                      (try clear hk)
                      (try clear hi)
                      refine hK.out _ _ ⟨(qA BK372.out 0).trans rfl, (qA BK372.out 1).trans rfl, (qA BK372.out 2).trans rfl, (qA BK372.out 3).trans rfl, (qA BK362.out 0).trans rfl, (qA BK362.out 1).trans rfl, (qA BK362.out 2).trans rfl, (qA BK362.out 3).trans rfl⟩ (fun hHeld => ?_)
                      clear hK K
                      refine norm_ (a' := ?_) ?_ ?_
                      rotate_left
                      · show Act.put _ (some 85) _ = _
                        simp only [Act.put, List.setIfInBounds_toArray, List.set_cons_zero, List.set_cons_succ, i64_w, i32_w]
                        rfl
                      refine pure_ (i := 21) (N := some 86) (v := ?_) (a' := ?_) #[true, true, true, true, true, true, true, true, true, true, true, true, true, true, true, true, true, true, true, true, true, true, false, false] rfl rfl (zI HT_.out (by kernel_rfl)) (fun _ _ _ h => h) (Or.inl ⟨by rfl, ?_⟩) ?_ ?_
                      rotate_left
                      · intro w'
                        go_simp
                        with_reducible rfl
                      rotate_left
                      · simp only [Act.put, List.setIfInBounds_toArray, List.set_cons_zero, List.set_cons_succ, i64_w, i32_w]
                        rfl
                      refine pure_ (i := 22) (N := some 87) (v := ?_) (a' := ?_) #[true, true, true, true, true, true, true, true, true, true, true, true, true, true, true, true, true, true, true, true, true, true, true, false] rfl rfl (zI HT_.out (by kernel_rfl)) (fun _ _ _ h => h) (Or.inl ⟨by rfl, ?_⟩) ?_ ?_
                      rotate_left
                      · intro w'
                        go_simp
                        with_reducible rfl
                      rotate_left
                      · simp only [Act.put, List.setIfInBounds_toArray, List.set_cons_zero, List.set_cons_succ, i64_w, i32_w]
                        rfl
                      refine pure_ (i := 23) (N := some 88) (v := ?_) (a' := ?_) #[true, true, true, true, true, true, true, true, true, true, true, true, true, true, true, true, true, true, true, true, true, true, true, true] rfl rfl (zI HT_.out (by kernel_rfl)) (fun _ _ _ h => h) (Or.inl ⟨by rfl, ?_⟩) ?_ ?_
                      rotate_left
                      · intro w'
                        go_simp
                        with_reducible rfl
                      rotate_left
                      · simp only [Act.put, List.setIfInBounds_toArray, List.set_cons_zero, List.set_cons_succ, i64_w, i32_w]
                        rfl
                      refine done_ (done_of HT_.out (by kernel_rfl)) ?_
                      try go_wp2
                      go_roundg k2
                      case measure => have := HJ5.out; have := HK2.out; omega
                      case rel => exact ⟨(wrap64 (x10_2 + 1)), (by first | rfl | (simp; done) | (simp [*]; done)), H', ⟨by have := HJ5.out; have := HK2.out; omega⟩, ⟨by (with_reducible repeat (first | apply Kd.zS | apply Kd.zT | apply Kd.zP)); exact HO_363000.out⟩, ⟨by (with_reducible repeat (first | apply Kd.qU | apply Kd.qT | apply Kd.qV)); exact HO_363001.out⟩, ⟨by (with_reducible repeat (first | apply Kd.zS | apply Kd.zT | apply Kd.zP)); exact HO_373000.out⟩, ⟨by (with_reducible repeat (first | apply Kd.qU | apply Kd.qT | apply Kd.qV)); exact HO_373001.out⟩, ⟨by (with_reducible repeat (first | apply Kd.zS | apply Kd.zT | apply Kd.zP)); exact HO_383000.out⟩, ⟨by (with_reducible repeat (first | apply Kd.qU | apply Kd.qT | apply Kd.qV)); exact HO_383001.out⟩, ⟨by (with_reducible repeat (first | refine qH ?_ _ | refine qI ?_ | refine qE ?_ _)); exact BK362.out⟩, ⟨by (with_reducible repeat (first | refine qH ?_ _ | refine qI ?_ | refine qE ?_ _)); exact BK372.out⟩, ⟨by (with_reducible repeat (first | refine qH ?_ _ | refine qI ?_ | refine qE ?_ _)); exact BK382.out⟩, ⟨by repeat (first | (with_reducible first | exact HB.out | apply qG | apply qD | apply qF | refine qC ?_ GE362.out | refine qC ?_ GE372.out | refine qC ?_ GE382.out) | exact HB.out)⟩⟩
                    · rw [if_neg c69] at H
                      have c69b0 : (t389.toList == t390.toList) = false := beq_eq_false_iff_ne.mpr c69
                      have c69b1 : (t389.toList != t390.toList) = true := bne_iff_ne.mpr c69
                      exact absurd H (by simp)
                · rw [if_neg c61] at H
                  have c61b0 : decide (x10_2 < 42) = false := decide_eq_false c61
                  clear c61
                  replace H := Option.bind_eq_some_iff.mp H
                  obtain ⟨t386, A730, H⟩ := H
                  replace H : (if t386 = true then ((laws_jtTexts.f k2 t363 t352).bind fun t387 => (some t387)) else (some false)) = some true := H
                  have A73 := Aside0.mk A730
                  clear A730
                  by_cases c74 : t386 = true
                  · subst c74
                    have H1 : ((laws_jtTexts.f k2 t363 t352).bind fun t387 => (some t387)) = some true := by first | rfl | (rw [if_pos rfl] at H; exact H)
                    clear H
                    have H := H1
                    clear H1
                    replace H := Option.bind_eq_some_iff.mp H
                    obtain ⟨t387, A750, H⟩ := H
                    replace H : (some t387) = some true := H
                    have A75 := Aside0.mk A750
                    clear A750
                    have HT_ : t387 = true := Option.some.inj H
                    clear H
                    have hnb76 := NB372_362.out
                    have hnc76 := NB362_372.out
                    have hnb77 := NB372_382.out
                    have hnc77 := NB382_372.out
                    have hcz78_0 : wr.cell? ⟨gb372, 0, none⟩ = some (.slice Ao14 t363.length co14) := (qA BK372.out 0).trans rfl
                    have hcz78_1 : wr.cell? ⟨gb372, 1, none⟩ = some (.slice Ao17 t366.length co17) := (qA BK372.out 1).trans rfl
                    have hcz78_2 : wr.cell? ⟨gb372, 2, none⟩ = some (.int .i64 t369) := (qA BK372.out 2).trans rfl
                    have hcz78_3 : wr.cell? ⟨gb372, 3, none⟩ = some (.int .i64 t370) := (qA BK372.out 3).trans rfl
                    have hfz78_0 := qB BK372.out 0
                    have hfz78_1 := qB BK372.out 1
                    have hfz78_2 := qB BK372.out 2
                    have hfz78_3 := qB BK372.out 3
                    go_wp2_with (first | ((with_reducible refine qX (f := 22) rfl ?_); refine zM (some 90) rfl rfl Try.func22 (by kernel_rfl) rfl #[.agg #[.slice Ao14 t363.length co14, .slice Ao17 t366.length co17, .int .i64 t369, .int .i64 t370]] rfl (by (try simp only [List.map_toArray, List.map_cons, List.map_nil]); first | done | rfl | (simp only [List.length_drop, List.length_take]; rfl)) ?_; (with_reducible refine (impl_DiskOk.calls _ _ t363 _ _ t366 t369 t370 true _ ?side1 ?side2 ?side3 ?side4 A73.out).mono ?_); (case side1 => repeat (first | exact (Kd.zQ HO_373000.out).2.2 | (with_reducible refine Kd.zF ?_ _) | (with_reducible refine Kd.zG ?_ _) | (with_reducible refine Kd.zL ?_))); (case side2 => exact (Kd.zQ HO_373000.out).2.1); (case side3 => repeat (first | exact (Kd.zC HO_373001.out).2.2 | (with_reducible refine Kd.zF ?_ _) | (with_reducible refine Kd.zG ?_ _) | (with_reducible refine Kd.zL ?_))); (case side4 => exact (Kd.zC HO_373001.out).2.1); rintro e w79 ⟨rfl, hb⟩; refine ⟨_, rfl, ?_⟩; have n0_ := Aside0.mk (Kd.zR (qw_ HO_363000.out) hb); have n1_ := Aside0.mk (Kd.zB (rw_ HO_363001.out) hb); have n2_ := Aside0.mk (Kd.zR (qw_ HO_373000.out) hb); have n3_ := Aside0.mk (Kd.zB (rw_ HO_373001.out) hb); have n4_ := Aside0.mk (Kd.zR (qw_ HO_383000.out) hb); have n5_ := Aside0.mk (Kd.zB (rw_ HO_383001.out) hb); have n6_ := Aside0.mk (qL (g := gb362) (o := .cells #[.slice Ao9 t352.length co9, .slice Ao11 t355.length co11, .int .i64 t358, .int .i64 t359] 26 (0, 0)) (bw_ BK362.out) hb); have n7_ := Aside0.mk (qL (g := gb372) (o := .cells #[.slice Ao14 t363.length co14, .slice Ao17 t366.length co17, .int .i64 t369, .int .i64 t370] 26 (0, 0)) (bw_ BK372.out) hb); have n8_ := Aside0.mk (qL (g := gb382) (o := .cells #[.slice Ao21 t373.length co21, .slice Ao25 t376.length co25, .int .i64 t379, .int .i64 t380] 26 (0, 0)) (bw_ BK382.out) hb); have n9_ := Aside0.mk (qQ (by repeat (first | (with_reducible first | exact HB.out | apply qG | apply qD | apply qF | refine qC ?_ GE362.out | refine qC ?_ GE372.out | refine qC ?_ GE382.out) | exact HB.out)) hb); clear HO_363000; clear HO_363001; clear HO_373000; clear HO_373001; clear HO_383000; clear HO_383001; clear BK362; clear BK372; clear BK382; clear HB; have HO_363000 := n0_; have HO_363001 := n1_; have HO_373000 := n2_; have HO_373001 := n3_; have HO_383000 := n4_; have HO_383001 := n5_; have BK362 := n6_; have BK372 := n7_; have BK382 := n8_; have HB := n9_; clear n0_ n1_ n2_ n3_ n4_ n5_ n6_ n7_ n8_ n9_; (try clear hb); (try clear hb2); (try clear hk); (try clear hi); have hcz80_0 : w79.cell? ⟨gb372, 0, none⟩ = some (.slice Ao14 t363.length co14) := (qA BK372.out 0).trans rfl; have hcz80_1 : w79.cell? ⟨gb372, 1, none⟩ = some (.slice Ao17 t366.length co17) := (qA BK372.out 1).trans rfl; have hcz80_2 : w79.cell? ⟨gb372, 2, none⟩ = some (.int .i64 t369) := (qA BK372.out 2).trans rfl; have hcz80_3 : w79.cell? ⟨gb372, 3, none⟩ = some (.int .i64 t370) := (qA BK372.out 3).trans rfl; have hfz80_0 := qB BK372.out 0; have hfz80_1 := qB BK372.out 1; have hfz80_2 := qB BK372.out 2; have hfz80_3 := qB BK372.out 3; have hnb81 := NB362_382.out; have hnc81 := NB382_362.out; have hcz82_0 : w79.cell? ⟨gb362, 0, none⟩ = some (.slice Ao9 t352.length co9) := (qA BK362.out 0).trans rfl; have hcz82_1 : w79.cell? ⟨gb362, 1, none⟩ = some (.slice Ao11 t355.length co11) := (qA BK362.out 1).trans rfl; have hcz82_2 : w79.cell? ⟨gb362, 2, none⟩ = some (.int .i64 t358) := (qA BK362.out 2).trans rfl; have hcz82_3 : w79.cell? ⟨gb362, 3, none⟩ = some (.int .i64 t359) := (qA BK362.out 3).trans rfl; have hfz82_0 := qB BK362.out 0; have hfz82_1 := qB BK362.out 1; have hfz82_2 := qB BK362.out 2; have hfz82_3 := qB BK362.out 3) | (go_at_call 19; (with_reducible refine (laws_jtTexts.calls k2 _ _ t363 _ _ t352 t387 _ ?side1 ?side2 ?side3 ?side4 A75.out).mono ?_); (case side1 => repeat (first | exact (Kd.zQ HO_373000.out).2.2 | (with_reducible refine Kd.zF ?_ _) | (with_reducible refine Kd.zG ?_ _) | (with_reducible refine Kd.zL ?_))); (case side2 => exact (Kd.zQ HO_373000.out).2.1); (case side3 => repeat (first | exact (Kd.zQ HO_363000.out).2.2 | (with_reducible refine Kd.zF ?_ _) | (with_reducible refine Kd.zG ?_ _) | (with_reducible refine Kd.zL ?_))); (case side4 => exact (Kd.zQ HO_363000.out).2.1); rintro e w' ⟨rfl, ⟨nd, rfl⟩⟩))
                    go_ret
                    exact ⟨by first | rfl | (simp [errW_none, errW_some] <;> rfl) | (simp [*, errW_none, errW_some] <;> rfl), by repeat (first | (with_reducible first | exact HB.out | apply qG | apply qD | apply qF | refine qC ?_ GE362.out | refine qC ?_ GE372.out | refine qC ?_ GE382.out) | exact HB.out)⟩
                  · replace c74 := Bool.eq_false_iff.mpr c74
                    subst c74
                    have H1 : (some false) = some true := by first | rfl | (rw [if_neg (show ¬ (false = true) by decide)] at H; exact H)
                    clear H
                    have H := H1
                    clear H1
                    exact absurd H (by simp)

/-- THE ONE PURE STATEMENT of laws_FnDiskWrite: yours. -/
def laws_FnDiskWrite.Pure : Prop := ∀ (l0 : List Int), l0.length ≤ maxLen → l0.length * 1 ≤ 140737488351232 → (∀ x ∈ l0, (Lit.int .u8 x).wf = true) → ∃ k, laws_FnDiskWrite.f k l0 = some true
theorem laws_FnDiskWrite.walk (P : laws_FnDiskWrite.Pure) (a0 : Option Addr) (len0 cap0 : Nat) (z0 : List Int) (w : World) (w0 : (a0 = none ∧ len0 = 0 ∧ cap0 = 0 ∧ z0 = []) ∨ ∃ x, a0 = some x ∧ len0 ≤ cap0 ∧ cap0 ≤ maxLen ∧ z0.length = cap0 ∧ (∀ i, i < z0.length → w.cell? (x.add i) = some (.int .u8 (z0.getD i 0))) ∧ ∀ n ∈ z0, (Lit.int .u8 n).wf = true) (y0 : len0 * 1 ≤ 140737488351232) :
    Calls Try.prog 5 #[.slice a0 len0 cap0] w fun e w' => e = .returned (.bool true) ∧ Below w.heap.size w w' := by
  obtain ⟨l0, rfl, hr0, hm0, hw0, hc0⟩ := ReadsInt.ofRowC w0
  obtain ⟨k, h⟩ := P l0 hm0 y0 hw0
  refine (laws_FnDiskWrite.calls k _ _ l0 w (Kd.C_of_reads (d := (0 : Int)) (h1 := fun _ => rfl) hr0) hc0 h).mono ?_
  rintro e w' ⟨rfl, hd⟩
  exact ⟨rfl, hd⟩

end Go.Proofs.Ytepihebkdnmppaa.Aj
