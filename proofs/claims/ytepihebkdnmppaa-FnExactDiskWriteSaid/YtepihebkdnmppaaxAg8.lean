/- Walks of the seat's functions, written by a program of this session (xprint.py) with the kit's printer: each call comes to just what its Lean function says. -/
import Derived.Test.YtepihebkdnmppaaxAg0
import Derived.Test.YtepihebkdnmppaaxAg2
import Derived.Test.YtepihebkdnmppaaxAg4
import Derived.Test.YtepihebkdnmppaaxAg5
import Derived.Test.YtepihebkdnmppaaxAg6
import Derived.Test.YtepihebkdnmppaaxAg7
namespace Go.Proofs.Ytepihebkdnmppaa.Ag
open Go.RowKit Go.Proofs.YtepihebkdnmppaaV.PrintWords Go.Proofs.YtepihebkdnmppaaV.PrintLast Go.Proofs.YtepihebkdnmppaaV.PrintMore
attribute [local go_sem] xB xC max_two min_two zT zU xD xE   -- for this text's walks alone
attribute [local go_sem high] World.zH
set_option linter.unusedVariables false
set_option linter.unusedSimpArgs false

/-! ### laws_FnExactDiskWrite: function 10 -/
mutual
def laws_FnExactDiskWrite.j0 : Nat → Int → ByteArray → Bool → Bool → Bool → List ByteArray → List (S92) → Int → Int → List ByteArray → List (S70) → Int → Int → List ByteArray → List (S70) → Int → Int → List ByteArray → List (S70) → Int → Int → Option (Bool)
  | 0, _, _, _, _, _, _, _, _, _, _, _, _, _, _, _, _, _, _, _, _, _ => none
  | k + 1, x1, x2, x9, x12, x51, x243000, x243001, x243002, x243003, x262000, x262001, x262002, x262003, x271000, x271001, x271002, x271003, x281000, x281001, x281002, x281003 => if x51 = true then (some false) else ((laws_toDisk.f k x243000 x243001 x243002 x243003).bind fun bt282 => ((laws_eqDisk.f k x271000 x271001 x271002 x271003 bt282.1 bt282.2.1 bt282.2.2.1 bt282.2.2.2).bind fun t290 => (if t290 = true then ((laws_markDisk.f k x271000 x271001 x271002 x271003 1).bind fun bt291 => (if bt291.1 < 0 then (laws_FnExactDiskWrite.j1 k x1 x2 x9 true x243000 x243001 x243002 x243003 x262000 x262001 x262002 x262003 x281000 x281001 x281002 x281003) else ((laws_eqDisk.f k x281000 x281001 x281002 x281003 x262000 x262001 x262002 x262003).bind fun t294 => (if t294 = true then (laws_FnExactDiskWrite.j1 k x1 x2 x9 (x12 != x9) x243000 x243001 x243002 x243003 x262000 x262001 x262002 x262003 x281000 x281001 x281002 x281003) else (laws_FnExactDiskWrite.j1 k x1 x2 x9 true x243000 x243001 x243002 x243003 x262000 x262001 x262002 x262003 x281000 x281001 x281002 x281003))))) else (some false))))
def laws_FnExactDiskWrite.j1 : Nat → Int → ByteArray → Bool → Bool → List ByteArray → List (S92) → Int → Int → List ByteArray → List (S70) → Int → Int → List ByteArray → List (S70) → Int → Int → Option (Bool)
  | 0, _, _, _, _, _, _, _, _, _, _, _, _, _, _, _, _ => none
  | k + 1, x1, x2, x9, x72, x243000, x243001, x243002, x243003, x262000, x262001, x262002, x262003, x281000, x281001, x281002, x281003 => if x72 = true then (some false) else ((laws_markDisk.f k x281000 x281001 x281002 x281003 1).bind fun bt295 => ((laws_heldDisk.f k bt295.2.1 bt295.2.2 x281002 x281003 1).bind fun t298 => (if t298 < 0 then (some false) else (if t298 = bt295.1 then ((laws_toDisk.f k x243000 x243001 x243002 x243003).bind fun bt299 => ((impl_DiskWrite.f bt299.1 bt299.2.1 bt299.2.2.1 bt299.2.2.2 x1 x2).bind fun bt307 => ((laws_eqDisk.f k bt307.1 bt307.2.1 bt307.2.2.1 bt307.2.2.2.1 x262000 x262001 x262002 x262003).bind fun t317 => (if t317 = true then (laws_FnExactDiskWrite.j2 k bt295.1 (bt307.2.2.2.2 != x9) bt295.2.1 bt295.2.2 x281002 x281003) else (laws_FnExactDiskWrite.j2 k bt295.1 true bt295.2.1 bt295.2.2 x281002 x281003))))) else (some false)))))
def laws_FnExactDiskWrite.j2 : Nat → Int → Bool → List ByteArray → List (S70) → Int → Int → Option (Bool)
  | 0, _, _, _, _, _, _ => none
  | k + 1, x14, x100, x281000, x281001, x281002, x281003 => if x100 = true then (some false) else ((laws_heldDisk.f k x281000 x281001 x281002 x281003 1).bind fun t318 => (if t318 < 0 then (some false) else (if t318 = x14 then (some true) else (some false))))
end
def laws_FnExactDiskWrite.f (k : Nat) (l0_0 : List ByteArray) (l0_1 : List (S92)) (a0_2 : Int) (a0_3 : Int) (a1 : Int) (a2 : ByteArray) : Option (Bool) := if (a2.size : Int) > 1048576 then (some true) else ((laws_szDisk.f k l0_0 l0_1 a0_2 a0_3 1048576).bind fun t243 => (if t243 < 0 then (some true) else ((laws_toDisk.f k l0_0 l0_1 a0_2 a0_3).bind fun bt244 => ((spec_DiskWrite.f k bt244.1 bt244.2.1 bt244.2.2.1 bt244.2.2.2 a1 a2).bind fun bt252 => ((laws_toDisk.f k l0_0 l0_1 a0_2 a0_3).bind fun bt262 => ((impl_DiskWrite.f bt262.1 bt262.2.1 bt262.2.2.1 bt262.2.2.2 a1 a2).bind fun bt271 => ((laws_eqDisk.f k bt271.1 bt271.2.1 bt271.2.2.1 bt271.2.2.2.1 bt252.1 bt252.2.1 bt252.2.2.1 bt252.2.2.2.1).bind fun t281 => (if t281 = true then (laws_FnExactDiskWrite.j0 k a1 a2 bt252.2.2.2.2 bt271.2.2.2.2 (bt271.2.2.2.2 != bt252.2.2.2.2) l0_0 l0_1 a0_2 a0_3 bt252.1 bt252.2.1 bt252.2.2.1 bt252.2.2.2.1 bt262.1 bt262.2.1 bt262.2.2.1 bt262.2.2.2 bt271.1 bt271.2.1 bt271.2.2.1 bt271.2.2.2.1) else (laws_FnExactDiskWrite.j0 k a1 a2 bt252.2.2.2.2 bt271.2.2.2.2 true l0_0 l0_1 a0_2 a0_3 bt252.1 bt252.2.1 bt252.2.2.1 bt252.2.2.2.1 bt262.1 bt262.2.1 bt262.2.2.1 bt262.2.2.2 bt271.1 bt271.2.1 bt271.2.2.1 bt271.2.2.2.1)))))))))
theorem laws_FnExactDiskWrite.mono_l : ∀ k, (∀ y0 y1 y2 y3 y4 y5 y6 y7 y8 y9 y10 y11 y12 y13 y14 y15 y16 y17 y18 y19 y20, LeO (laws_FnExactDiskWrite.j0 k y0 y1 y2 y3 y4 y5 y6 y7 y8 y9 y10 y11 y12 y13 y14 y15 y16 y17 y18 y19 y20) (laws_FnExactDiskWrite.j0 (k + 1) y0 y1 y2 y3 y4 y5 y6 y7 y8 y9 y10 y11 y12 y13 y14 y15 y16 y17 y18 y19 y20)) ∧ (∀ y0 y1 y2 y3 y4 y5 y6 y7 y8 y9 y10 y11 y12 y13 y14 y15, LeO (laws_FnExactDiskWrite.j1 k y0 y1 y2 y3 y4 y5 y6 y7 y8 y9 y10 y11 y12 y13 y14 y15) (laws_FnExactDiskWrite.j1 (k + 1) y0 y1 y2 y3 y4 y5 y6 y7 y8 y9 y10 y11 y12 y13 y14 y15)) ∧ (∀ y0 y1 y2 y3 y4 y5, LeO (laws_FnExactDiskWrite.j2 k y0 y1 y2 y3 y4 y5) (laws_FnExactDiskWrite.j2 (k + 1) y0 y1 y2 y3 y4 y5))
  | 0 => ⟨fun _ _ _ _ _ _ _ _ _ _ _ _ _ _ _ _ _ _ _ _ _ r h => by simp [laws_FnExactDiskWrite.j0] at h, fun _ _ _ _ _ _ _ _ _ _ _ _ _ _ _ _ r h => by simp [laws_FnExactDiskWrite.j1] at h, fun _ _ _ _ _ _ r h => by simp [laws_FnExactDiskWrite.j2] at h⟩
  | k + 1 => by
    obtain ⟨ih0, ih1, ih2⟩ := laws_FnExactDiskWrite.mono_l k
    refine ⟨?_, ?_, ?_⟩
    · intro y0 y1 y2 y3 y4 y5 y6 y7 y8 y9 y10 y11 y12 y13 y14 y15 y16 y17 y18 y19 y20
      unfold laws_FnExactDiskWrite.j0
      repeat' first
      | (with_reducible exact ih0 _ _ _ _ _ _ _ _ _ _ _ _ _ _ _ _ _ _ _ _ _)
      | (with_reducible exact ih1 _ _ _ _ _ _ _ _ _ _ _ _ _ _ _ _)
      | (with_reducible exact ih2 _ _ _ _ _ _)
      | (with_reducible exact laws_eqDisk.mono _ _ _ _ _ _ _ _ _)
      | (with_reducible exact laws_heldDisk.mono _ _ _ _ _ _)
      | (with_reducible exact laws_markDisk.mono _ _ _ _ _ _)
      | (with_reducible exact laws_szDisk.mono _ _ _ _ _ _)
      | (with_reducible exact laws_toDisk.mono _ _ _ _ _)
      | (with_reducible exact spec_DiskWrite.mono _ _ _ _ _ _ _)
      | (with_reducible exact LeO.refl _)
      | (with_reducible exact LeO.none _)
      | (with_reducible refine LeO.ite ?_ ?_)
      | (with_reducible refine LeO.bind ?_ (fun _ => ?_))
      | exact ih0 _ _ _ _ _ _ _ _ _ _ _ _ _ _ _ _ _ _ _ _ _
      | exact ih1 _ _ _ _ _ _ _ _ _ _ _ _ _ _ _ _
      | exact ih2 _ _ _ _ _ _
      | exact laws_eqDisk.mono _ _ _ _ _ _ _ _ _
      | exact laws_heldDisk.mono _ _ _ _ _ _
      | exact laws_markDisk.mono _ _ _ _ _ _
      | exact laws_szDisk.mono _ _ _ _ _ _
      | exact laws_toDisk.mono _ _ _ _ _
      | exact spec_DiskWrite.mono _ _ _ _ _ _ _
      | exact LeO.none _
      | refine LeO.ite ?_ ?_
      | refine LeO.bind ?_ (fun _ => ?_)
    · intro y0 y1 y2 y3 y4 y5 y6 y7 y8 y9 y10 y11 y12 y13 y14 y15
      unfold laws_FnExactDiskWrite.j1
      repeat' first
      | (with_reducible exact ih0 _ _ _ _ _ _ _ _ _ _ _ _ _ _ _ _ _ _ _ _ _)
      | (with_reducible exact ih1 _ _ _ _ _ _ _ _ _ _ _ _ _ _ _ _)
      | (with_reducible exact ih2 _ _ _ _ _ _)
      | (with_reducible exact laws_eqDisk.mono _ _ _ _ _ _ _ _ _)
      | (with_reducible exact laws_heldDisk.mono _ _ _ _ _ _)
      | (with_reducible exact laws_markDisk.mono _ _ _ _ _ _)
      | (with_reducible exact laws_szDisk.mono _ _ _ _ _ _)
      | (with_reducible exact laws_toDisk.mono _ _ _ _ _)
      | (with_reducible exact spec_DiskWrite.mono _ _ _ _ _ _ _)
      | (with_reducible exact LeO.refl _)
      | (with_reducible exact LeO.none _)
      | (with_reducible refine LeO.ite ?_ ?_)
      | (with_reducible refine LeO.bind ?_ (fun _ => ?_))
      | exact ih0 _ _ _ _ _ _ _ _ _ _ _ _ _ _ _ _ _ _ _ _ _
      | exact ih1 _ _ _ _ _ _ _ _ _ _ _ _ _ _ _ _
      | exact ih2 _ _ _ _ _ _
      | exact laws_eqDisk.mono _ _ _ _ _ _ _ _ _
      | exact laws_heldDisk.mono _ _ _ _ _ _
      | exact laws_markDisk.mono _ _ _ _ _ _
      | exact laws_szDisk.mono _ _ _ _ _ _
      | exact laws_toDisk.mono _ _ _ _ _
      | exact spec_DiskWrite.mono _ _ _ _ _ _ _
      | exact LeO.none _
      | refine LeO.ite ?_ ?_
      | refine LeO.bind ?_ (fun _ => ?_)
    · intro y0 y1 y2 y3 y4 y5
      unfold laws_FnExactDiskWrite.j2
      repeat' first
      | (with_reducible exact ih0 _ _ _ _ _ _ _ _ _ _ _ _ _ _ _ _ _ _ _ _ _)
      | (with_reducible exact ih1 _ _ _ _ _ _ _ _ _ _ _ _ _ _ _ _)
      | (with_reducible exact ih2 _ _ _ _ _ _)
      | (with_reducible exact laws_eqDisk.mono _ _ _ _ _ _ _ _ _)
      | (with_reducible exact laws_heldDisk.mono _ _ _ _ _ _)
      | (with_reducible exact laws_markDisk.mono _ _ _ _ _ _)
      | (with_reducible exact laws_szDisk.mono _ _ _ _ _ _)
      | (with_reducible exact laws_toDisk.mono _ _ _ _ _)
      | (with_reducible exact spec_DiskWrite.mono _ _ _ _ _ _ _)
      | (with_reducible exact LeO.refl _)
      | (with_reducible exact LeO.none _)
      | (with_reducible refine LeO.ite ?_ ?_)
      | (with_reducible refine LeO.bind ?_ (fun _ => ?_))
      | exact ih0 _ _ _ _ _ _ _ _ _ _ _ _ _ _ _ _ _ _ _ _ _
      | exact ih1 _ _ _ _ _ _ _ _ _ _ _ _ _ _ _ _
      | exact ih2 _ _ _ _ _ _
      | exact laws_eqDisk.mono _ _ _ _ _ _ _ _ _
      | exact laws_heldDisk.mono _ _ _ _ _ _
      | exact laws_markDisk.mono _ _ _ _ _ _
      | exact laws_szDisk.mono _ _ _ _ _ _
      | exact laws_toDisk.mono _ _ _ _ _
      | exact spec_DiskWrite.mono _ _ _ _ _ _ _
      | exact LeO.none _
      | refine LeO.ite ?_ ?_
      | refine LeO.bind ?_ (fun _ => ?_)
theorem laws_FnExactDiskWrite.mono : ∀ a0 a1 a2 a3 a4 a5 k, LeO (laws_FnExactDiskWrite.f k a0 a1 a2 a3 a4 a5) (laws_FnExactDiskWrite.f (k + 1) a0 a1 a2 a3 a4 a5) := by
  intro a0 a1 a2 a3 a4 a5 k
  obtain ⟨ih0, ih1, ih2⟩ := laws_FnExactDiskWrite.mono_l k
  unfold laws_FnExactDiskWrite.f
  repeat' first
      | (with_reducible exact ih0 _ _ _ _ _ _ _ _ _ _ _ _ _ _ _ _ _ _ _ _ _)
      | (with_reducible exact ih1 _ _ _ _ _ _ _ _ _ _ _ _ _ _ _ _)
      | (with_reducible exact ih2 _ _ _ _ _ _)
      | (with_reducible exact laws_eqDisk.mono _ _ _ _ _ _ _ _ _)
      | (with_reducible exact laws_heldDisk.mono _ _ _ _ _ _)
      | (with_reducible exact laws_markDisk.mono _ _ _ _ _ _)
      | (with_reducible exact laws_szDisk.mono _ _ _ _ _ _)
      | (with_reducible exact laws_toDisk.mono _ _ _ _ _)
      | (with_reducible exact spec_DiskWrite.mono _ _ _ _ _ _ _)
      | (with_reducible exact LeO.refl _)
      | (with_reducible exact LeO.none _)
      | (with_reducible refine LeO.ite ?_ ?_)
      | (with_reducible refine LeO.bind ?_ (fun _ => ?_))
      | exact ih0 _ _ _ _ _ _ _ _ _ _ _ _ _ _ _ _ _ _ _ _ _
      | exact ih1 _ _ _ _ _ _ _ _ _ _ _ _ _ _ _ _
      | exact ih2 _ _ _ _ _ _
      | exact laws_eqDisk.mono _ _ _ _ _ _ _ _ _
      | exact laws_heldDisk.mono _ _ _ _ _ _
      | exact laws_markDisk.mono _ _ _ _ _ _
      | exact laws_szDisk.mono _ _ _ _ _ _
      | exact laws_toDisk.mono _ _ _ _ _
      | exact spec_DiskWrite.mono _ _ _ _ _ _ _
      | exact LeO.none _
      | refine LeO.ite ?_ ?_
      | refine LeO.bind ?_ (fun _ => ?_)
set_option maxHeartbeats 8000000 in
set_option maxRecDepth 100000 in
theorem laws_FnExactDiskWrite.calls (k : Nat) (A0_0 : Option Addr) (c0_0 : Nat) (l0_0 : List ByteArray) (A0_1 : Option Addr) (c0_1 : Nat) (l0_1 : List (S92)) (a0_2 : Int) (a0_3 : Int) (a1 : Int) (a2 : ByteArray) (w : World) (hr0_0 : Kd.C Kd.string w A0_0 l0_0.length l0_0) (hc0_0 : l0_0.length ≤ c0_0) (hr0_1 : Kd.C k92 w A0_1 l0_1.length l0_1) (hc0_1 : l0_1.length ≤ c0_1) (h : laws_FnExactDiskWrite.f k l0_0 l0_1 a0_2 a0_3 a1 a2 = some true) :
    Calls Try.prog 10 #[.agg #[.slice A0_0 l0_0.length c0_0, .slice A0_1 l0_1.length c0_1, .int .i64 a0_2, .int .i64 a0_3], .int .i64 a1, .string a2] w fun e w' => e = .returned (.bool true) ∧ Below w.heap.size w w' := by
  have hu43 := Try.underlying43
  have hu26 := Try.underlying26
  have HR0_0 := Aside0.mk hr0_0
  have HC0_0 := Aside0.mk hc0_0
  clear hr0_0 hc0_0
  have HR0_1 := Aside0.mk hr0_1
  have HC0_1 := Aside0.mk hc0_1
  clear hr0_1 hc0_1
  have HB := Aside0.mk (Below.refl w.heap.size w)
  have H : (if (a2.size : Int) > 1048576 then (some true) else ((laws_szDisk.f k l0_0 l0_1 a0_2 a0_3 1048576).bind fun t243 => (if t243 < 0 then (some true) else ((laws_toDisk.f k l0_0 l0_1 a0_2 a0_3).bind fun bt244 => ((spec_DiskWrite.f k bt244.1 bt244.2.1 bt244.2.2.1 bt244.2.2.2 a1 a2).bind fun bt252 => ((laws_toDisk.f k l0_0 l0_1 a0_2 a0_3).bind fun bt262 => ((impl_DiskWrite.f bt262.1 bt262.2.1 bt262.2.2.1 bt262.2.2.2 a1 a2).bind fun bt271 => ((laws_eqDisk.f k bt271.1 bt271.2.1 bt271.2.2.1 bt271.2.2.2.1 bt252.1 bt252.2.1 bt252.2.2.1 bt252.2.2.2.1).bind fun t281 => (if t281 = true then (laws_FnExactDiskWrite.j0 k a1 a2 bt252.2.2.2.2 bt271.2.2.2.2 (bt271.2.2.2.2 != bt252.2.2.2.2) l0_0 l0_1 a0_2 a0_3 bt252.1 bt252.2.1 bt252.2.2.1 bt252.2.2.2.1 bt262.1 bt262.2.1 bt262.2.2.1 bt262.2.2.2 bt271.1 bt271.2.1 bt271.2.2.1 bt271.2.2.2.1) else (laws_FnExactDiskWrite.j0 k a1 a2 bt252.2.2.2.2 bt271.2.2.2.2 true l0_0 l0_1 a0_2 a0_3 bt252.1 bt252.2.1 bt252.2.2.1 bt252.2.2.2.1 bt262.1 bt262.2.1 bt262.2.2.1 bt262.2.2.2 bt271.1 bt271.2.1 bt271.2.2.1 bt271.2.2.2.1)))))))))) = some true := h
  clear h
  by_cases c4 : (a2.size : Int) > 1048576
  · rw [if_pos c4] at H
    have c4b0 : decide (1048576 < (a2.size : Int)) = true := decide_eq_true c4
    have c4b1 : decide (1048576 < a2.size) = true := decide_eq_true (by omega)
    clear c4
    have HT_ : true = true := Option.some.inj H
    clear H
    go_enter Try.func10, Try.ntmps10
    go_wp2_with (first | ((with_reducible refine qX (N := 3) rfl ?_); refine qW ?hg (N := 3) ?hd (cs := #[.slice A0_0 l0_0.length c0_0, .slice A0_1 l0_1.length c0_1, .int .i64 a0_2, .int .i64 a0_3]) (t := 43) ?hr ?_; (case hd => rfl); (case hg => rfl); (case hr => first | (go_simp; done) | (go_simp; rfl)); intro gb242 hg w5 hbox hb; have n0_ := Aside0.mk (qO (by repeat (first | (with_reducible first | exact HB.out | apply qH | apply qA | apply qG) | exact HB.out)) hb); have n1_ := Aside0.mk (hbox); have n2_ := Aside0.mk ((by rw [hg]; exact (qM (by repeat (first | (with_reducible first | exact HB.out | apply qH | apply qA | apply qG) | exact HB.out))) : w.heap.size ≤ gb242)); have n3_ := Aside0.mk ((by rw [hg]; exact (qM (by repeat (first | (with_reducible first | exact HB.out | apply qH | apply qA | apply qG) | exact HB.out))) : w.heap.size ≤ gb242)); clear HB; have HB := n0_; have BK242 := n1_; have GW242 := n2_; have GE242 := n3_; clear n0_ n1_ n2_ n3_; clear hb hbox hg))
    go_ret
    exact ⟨by first | rfl | (simp [errW_none, errW_some] <;> rfl) | (simp [*, errW_none, errW_some] <;> rfl), by repeat (first | (with_reducible first | exact HB.out | apply qH | apply qA | apply qG | refine qF ?_ GE242.out) | exact HB.out)⟩
  · rw [if_neg c4] at H
    have c4b0 : decide (1048576 < (a2.size : Int)) = false := decide_eq_false c4
    have c4b1 : decide (1048576 < a2.size) = false := decide_eq_false (by omega)
    clear c4
    replace H := Option.bind_eq_some_iff.mp H
    obtain ⟨t243, A60, H⟩ := H
    replace H : (if t243 < 0 then (some true) else ((laws_toDisk.f k l0_0 l0_1 a0_2 a0_3).bind fun bt244 => ((spec_DiskWrite.f k bt244.1 bt244.2.1 bt244.2.2.1 bt244.2.2.2 a1 a2).bind fun bt252 => ((laws_toDisk.f k l0_0 l0_1 a0_2 a0_3).bind fun bt262 => ((impl_DiskWrite.f bt262.1 bt262.2.1 bt262.2.2.1 bt262.2.2.2 a1 a2).bind fun bt271 => ((laws_eqDisk.f k bt271.1 bt271.2.1 bt271.2.2.1 bt271.2.2.2.1 bt252.1 bt252.2.1 bt252.2.2.1 bt252.2.2.2.1).bind fun t281 => (if t281 = true then (laws_FnExactDiskWrite.j0 k a1 a2 bt252.2.2.2.2 bt271.2.2.2.2 (bt271.2.2.2.2 != bt252.2.2.2.2) l0_0 l0_1 a0_2 a0_3 bt252.1 bt252.2.1 bt252.2.2.1 bt252.2.2.2.1 bt262.1 bt262.2.1 bt262.2.2.1 bt262.2.2.2 bt271.1 bt271.2.1 bt271.2.2.1 bt271.2.2.2.1) else (laws_FnExactDiskWrite.j0 k a1 a2 bt252.2.2.2.2 bt271.2.2.2.2 true l0_0 l0_1 a0_2 a0_3 bt252.1 bt252.2.1 bt252.2.2.1 bt252.2.2.2.1 bt262.1 bt262.2.1 bt262.2.2.1 bt262.2.2.2 bt271.1 bt271.2.1 bt271.2.2.1 bt271.2.2.2.1)))))))) = some true := H
    have A6 := Aside0.mk A60
    clear A60
    by_cases c7 : t243 < 0
    · rw [if_pos c7] at H
      have c7b0 : decide (t243 < 0) = true := decide_eq_true c7
      clear c7
      have HT_ : true = true := Option.some.inj H
      clear H
      go_enter Try.func10, Try.ntmps10
      go_wp2_with (first | ((with_reducible refine qX (N := 3) rfl ?_); refine qW ?hg (N := 3) ?hd (cs := #[.slice A0_0 l0_0.length c0_0, .slice A0_1 l0_1.length c0_1, .int .i64 a0_2, .int .i64 a0_3]) (t := 43) ?hr ?_; (case hd => rfl); (case hg => rfl); (case hr => first | (go_simp; done) | (go_simp; rfl)); intro gb242 hg w8 hbox hb; have n0_ := Aside0.mk (qO (by repeat (first | (with_reducible first | exact HB.out | apply qH | apply qA | apply qG) | exact HB.out)) hb); have n1_ := Aside0.mk (hbox); have n2_ := Aside0.mk ((by rw [hg]; exact (qM (by repeat (first | (with_reducible first | exact HB.out | apply qH | apply qA | apply qG) | exact HB.out))) : w.heap.size ≤ gb242)); have n3_ := Aside0.mk ((by rw [hg]; exact (qM (by repeat (first | (with_reducible first | exact HB.out | apply qH | apply qA | apply qG) | exact HB.out))) : w.heap.size ≤ gb242)); clear HB; have HB := n0_; have BK242 := n1_; have GW242 := n2_; have GE242 := n3_; clear n0_ n1_ n2_ n3_; clear hb hbox hg; have hcz9_0 : w8.cell? ⟨gb242, 0, none⟩ = some (.slice A0_0 l0_0.length c0_0) := (qC BK242.out 0).trans rfl; have hcz9_1 : w8.cell? ⟨gb242, 1, none⟩ = some (.slice A0_1 l0_1.length c0_1) := (qC BK242.out 1).trans rfl; have hcz9_2 : w8.cell? ⟨gb242, 2, none⟩ = some (.int .i64 a0_2) := (qC BK242.out 2).trans rfl; have hcz9_3 : w8.cell? ⟨gb242, 3, none⟩ = some (.int .i64 a0_3) := (qC BK242.out 3).trans rfl; have hfz9_0 := qB BK242.out 0; have hfz9_1 := qB BK242.out 1; have hfz9_2 := qB BK242.out 2; have hfz9_3 := qB BK242.out 3) | ((with_reducible refine qT (f := 23) rfl ?_); refine zD (some 23) rfl rfl Try.func23 (by kernel_rfl) rfl #[.agg #[.slice A0_0 l0_0.length c0_0, .slice A0_1 l0_1.length c0_1, .int .i64 a0_2, .int .i64 a0_3], .int .i64 1048576] rfl (by (try simp only [List.map_toArray, List.map_cons, List.map_nil]); first | done | rfl | (simp only [List.length_drop, List.length_take]; rfl)) ?_; (with_reducible refine (laws_szDisk.calls k _ _ l0_0 _ _ l0_1 a0_2 a0_3 1048576 t243 _ ?side1 ?side2 ?side3 ?side4 A6.out).mono ?_); (case side1 => repeat (first | exact (Kd.qY HR0_0.out HB.out) | (with_reducible refine Kd.qZ ?_ _) | (with_reducible refine Kd.zA ?_ _) | (with_reducible refine Kd.zC ?_))); (case side2 => exact HC0_0.out); (case side3 => repeat (first | exact (Kd.qY HR0_1.out HB.out) | (with_reducible refine Kd.qZ ?_ _) | (with_reducible refine Kd.zA ?_ _) | (with_reducible refine Kd.zC ?_))); (case side4 => exact HC0_1.out); rintro e w10 ⟨rfl, hb⟩; refine ⟨_, rfl, ?_⟩; have n0_ := Aside0.mk (qL (g := gb242) (o := .cells #[.slice A0_0 l0_0.length c0_0, .slice A0_1 l0_1.length c0_1, .int .i64 a0_2, .int .i64 a0_3] 43 (0, 0)) (by (with_reducible repeat (first | refine qE ?_ _ | refine qI ?_ | refine qD ?_ _)); exact BK242.out) hb); have n1_ := Aside0.mk (qO (by repeat (first | (with_reducible first | exact HB.out | apply qH | apply qA | apply qG | refine qF ?_ GE242.out) | exact HB.out)) hb); clear BK242; clear HB; have BK242 := n0_; have HB := n1_; clear n0_ n1_; (try clear hb); (try clear hb2); (try clear hk); (try clear hi)))
      go_ret
      exact ⟨by first | rfl | (simp [errW_none, errW_some] <;> rfl) | (simp [*, errW_none, errW_some] <;> rfl), by repeat (first | (with_reducible first | exact HB.out | apply qH | apply qA | apply qG | refine qF ?_ GE242.out) | exact HB.out)⟩
    · rw [if_neg c7] at H
      have c7b0 : decide (t243 < 0) = false := decide_eq_false c7
      clear c7
      replace H := Option.bind_eq_some_iff.mp H
      obtain ⟨⟨t244, t247, t250, t251⟩, A110, H⟩ := H
      replace H : ((spec_DiskWrite.f k t244 t247 t250 t251 a1 a2).bind fun bt252 => ((laws_toDisk.f k l0_0 l0_1 a0_2 a0_3).bind fun bt262 => ((impl_DiskWrite.f bt262.1 bt262.2.1 bt262.2.2.1 bt262.2.2.2 a1 a2).bind fun bt271 => ((laws_eqDisk.f k bt271.1 bt271.2.1 bt271.2.2.1 bt271.2.2.2.1 bt252.1 bt252.2.1 bt252.2.2.1 bt252.2.2.2.1).bind fun t281 => (if t281 = true then (laws_FnExactDiskWrite.j0 k a1 a2 bt252.2.2.2.2 bt271.2.2.2.2 (bt271.2.2.2.2 != bt252.2.2.2.2) l0_0 l0_1 a0_2 a0_3 bt252.1 bt252.2.1 bt252.2.2.1 bt252.2.2.2.1 bt262.1 bt262.2.1 bt262.2.2.1 bt262.2.2.2 bt271.1 bt271.2.1 bt271.2.2.1 bt271.2.2.2.1) else (laws_FnExactDiskWrite.j0 k a1 a2 bt252.2.2.2.2 bt271.2.2.2.2 true l0_0 l0_1 a0_2 a0_3 bt252.1 bt252.2.1 bt252.2.2.1 bt252.2.2.2.1 bt262.1 bt262.2.1 bt262.2.2.1 bt262.2.2.2 bt271.1 bt271.2.1 bt271.2.2.1 bt271.2.2.2.1)))))) = some true := H
      have A11 := Aside0.mk A110
      clear A110
      replace H := Option.bind_eq_some_iff.mp H
      obtain ⟨⟨t252, t255, t258, t259, t260⟩, A120, H⟩ := H
      replace H : ((laws_toDisk.f k l0_0 l0_1 a0_2 a0_3).bind fun bt262 => ((impl_DiskWrite.f bt262.1 bt262.2.1 bt262.2.2.1 bt262.2.2.2 a1 a2).bind fun bt271 => ((laws_eqDisk.f k bt271.1 bt271.2.1 bt271.2.2.1 bt271.2.2.2.1 t252 t255 t258 t259).bind fun t281 => (if t281 = true then (laws_FnExactDiskWrite.j0 k a1 a2 t260 bt271.2.2.2.2 (bt271.2.2.2.2 != t260) l0_0 l0_1 a0_2 a0_3 t252 t255 t258 t259 bt262.1 bt262.2.1 bt262.2.2.1 bt262.2.2.2 bt271.1 bt271.2.1 bt271.2.2.1 bt271.2.2.2.1) else (laws_FnExactDiskWrite.j0 k a1 a2 t260 bt271.2.2.2.2 true l0_0 l0_1 a0_2 a0_3 t252 t255 t258 t259 bt262.1 bt262.2.1 bt262.2.2.1 bt262.2.2.2 bt271.1 bt271.2.1 bt271.2.2.1 bt271.2.2.2.1))))) = some true := H
      have A12 := Aside0.mk A120
      clear A120
      replace H := Option.bind_eq_some_iff.mp H
      obtain ⟨⟨t262, t265, t268, t269⟩, A130, H⟩ := H
      replace H : ((impl_DiskWrite.f t262 t265 t268 t269 a1 a2).bind fun bt271 => ((laws_eqDisk.f k bt271.1 bt271.2.1 bt271.2.2.1 bt271.2.2.2.1 t252 t255 t258 t259).bind fun t281 => (if t281 = true then (laws_FnExactDiskWrite.j0 k a1 a2 t260 bt271.2.2.2.2 (bt271.2.2.2.2 != t260) l0_0 l0_1 a0_2 a0_3 t252 t255 t258 t259 t262 t265 t268 t269 bt271.1 bt271.2.1 bt271.2.2.1 bt271.2.2.2.1) else (laws_FnExactDiskWrite.j0 k a1 a2 t260 bt271.2.2.2.2 true l0_0 l0_1 a0_2 a0_3 t252 t255 t258 t259 t262 t265 t268 t269 bt271.1 bt271.2.1 bt271.2.2.1 bt271.2.2.2.1)))) = some true := H
      have A13 := Aside0.mk A130
      clear A130
      replace H := Option.bind_eq_some_iff.mp H
      obtain ⟨⟨t271, t274, t277, t278, t279⟩, A140, H⟩ := H
      replace H : ((laws_eqDisk.f k t271 t274 t277 t278 t252 t255 t258 t259).bind fun t281 => (if t281 = true then (laws_FnExactDiskWrite.j0 k a1 a2 t260 t279 (t279 != t260) l0_0 l0_1 a0_2 a0_3 t252 t255 t258 t259 t262 t265 t268 t269 t271 t274 t277 t278) else (laws_FnExactDiskWrite.j0 k a1 a2 t260 t279 true l0_0 l0_1 a0_2 a0_3 t252 t255 t258 t259 t262 t265 t268 t269 t271 t274 t277 t278))) = some true := H
      have A14 := Aside0.mk A140
      clear A140
      have HC15 := Aside0.mk H
      clear H
      go_enter Try.func10, Try.ntmps10
      go_upto_region 10 with (first | ((with_reducible refine qX (N := 3) rfl ?_); refine qW ?hg (N := 3) ?hd (cs := #[.slice A0_0 l0_0.length c0_0, .slice A0_1 l0_1.length c0_1, .int .i64 a0_2, .int .i64 a0_3]) (t := 43) ?hr ?_; (case hd => rfl); (case hg => rfl); (case hr => first | (go_simp; done) | (go_simp; rfl)); intro gb242 hg w16 hbox hb; have n0_ := Aside0.mk (qO (by repeat (first | (with_reducible first | exact HB.out | apply qH | apply qA | apply qG) | exact HB.out)) hb); have n1_ := Aside0.mk (hbox); have n2_ := Aside0.mk ((by rw [hg]; exact (qM (by repeat (first | (with_reducible first | exact HB.out | apply qH | apply qA | apply qG) | exact HB.out))) : w.heap.size ≤ gb242)); have n3_ := Aside0.mk ((by rw [hg]; exact (qM (by repeat (first | (with_reducible first | exact HB.out | apply qH | apply qA | apply qG) | exact HB.out))) : w.heap.size ≤ gb242)); clear HB; have HB := n0_; have BK242 := n1_; have GW242 := n2_; have GE242 := n3_; clear n0_ n1_ n2_ n3_; clear hb hbox hg; have hcz17_0 : w16.cell? ⟨gb242, 0, none⟩ = some (.slice A0_0 l0_0.length c0_0) := (qC BK242.out 0).trans rfl; have hcz17_1 : w16.cell? ⟨gb242, 1, none⟩ = some (.slice A0_1 l0_1.length c0_1) := (qC BK242.out 1).trans rfl; have hcz17_2 : w16.cell? ⟨gb242, 2, none⟩ = some (.int .i64 a0_2) := (qC BK242.out 2).trans rfl; have hcz17_3 : w16.cell? ⟨gb242, 3, none⟩ = some (.int .i64 a0_3) := (qC BK242.out 3).trans rfl; have hfz17_0 := qB BK242.out 0; have hfz17_1 := qB BK242.out 1; have hfz17_2 := qB BK242.out 2; have hfz17_3 := qB BK242.out 3) | ((with_reducible refine qT (f := 23) rfl ?_); refine zD (some 23) rfl rfl Try.func23 (by kernel_rfl) rfl #[.agg #[.slice A0_0 l0_0.length c0_0, .slice A0_1 l0_1.length c0_1, .int .i64 a0_2, .int .i64 a0_3], .int .i64 1048576] rfl (by (try simp only [List.map_toArray, List.map_cons, List.map_nil]); first | done | rfl | (simp only [List.length_drop, List.length_take]; rfl)) ?_; (with_reducible refine (laws_szDisk.calls k _ _ l0_0 _ _ l0_1 a0_2 a0_3 1048576 t243 _ ?side1 ?side2 ?side3 ?side4 A6.out).mono ?_); (case side1 => repeat (first | exact (Kd.qY HR0_0.out HB.out) | (with_reducible refine Kd.qZ ?_ _) | (with_reducible refine Kd.zA ?_ _) | (with_reducible refine Kd.zC ?_))); (case side2 => exact HC0_0.out); (case side3 => repeat (first | exact (Kd.qY HR0_1.out HB.out) | (with_reducible refine Kd.qZ ?_ _) | (with_reducible refine Kd.zA ?_ _) | (with_reducible refine Kd.zC ?_))); (case side4 => exact HC0_1.out); rintro e w18 ⟨rfl, hb⟩; refine ⟨_, rfl, ?_⟩; have n0_ := Aside0.mk (qL (g := gb242) (o := .cells #[.slice A0_0 l0_0.length c0_0, .slice A0_1 l0_1.length c0_1, .int .i64 a0_2, .int .i64 a0_3] 43 (0, 0)) (by (with_reducible repeat (first | refine qE ?_ _ | refine qI ?_ | refine qD ?_ _)); exact BK242.out) hb); have n1_ := Aside0.mk (qO (by repeat (first | (with_reducible first | exact HB.out | apply qH | apply qA | apply qG | refine qF ?_ GE242.out) | exact HB.out)) hb); clear BK242; clear HB; have BK242 := n0_; have HB := n1_; clear n0_ n1_; (try clear hb); (try clear hb2); (try clear hk); (try clear hi); have hcz19_0 : w18.cell? ⟨gb242, 0, none⟩ = some (.slice A0_0 l0_0.length c0_0) := (qC BK242.out 0).trans rfl; have hcz19_1 : w18.cell? ⟨gb242, 1, none⟩ = some (.slice A0_1 l0_1.length c0_1) := (qC BK242.out 1).trans rfl; have hcz19_2 : w18.cell? ⟨gb242, 2, none⟩ = some (.int .i64 a0_2) := (qC BK242.out 2).trans rfl; have hcz19_3 : w18.cell? ⟨gb242, 3, none⟩ = some (.int .i64 a0_3) := (qC BK242.out 3).trans rfl; have hfz19_0 := qB BK242.out 0; have hfz19_1 := qB BK242.out 1; have hfz19_2 := qB BK242.out 2; have hfz19_3 := qB BK242.out 3) | ((with_reducible refine qT (f := 24) rfl ?_); refine zD (some 28) rfl rfl Try.func24 (by kernel_rfl) rfl #[.agg #[.slice A0_0 l0_0.length c0_0, .slice A0_1 l0_1.length c0_1, .int .i64 a0_2, .int .i64 a0_3]] rfl (by (try simp only [List.map_toArray, List.map_cons, List.map_nil]); first | done | rfl | (simp only [List.length_drop, List.length_take]; rfl)) ?_; (with_reducible refine (laws_toDisk.calls k _ _ l0_0 _ _ l0_1 a0_2 a0_3 t244 t247 t250 t251 _ ?side1 ?side2 ?side3 ?side4 A11.out).mono ?_); (case side1 => repeat (first | exact (Kd.qY HR0_0.out HB.out) | (with_reducible refine Kd.qZ ?_ _) | (with_reducible refine Kd.zA ?_ _) | (with_reducible refine Kd.zC ?_))); (case side2 => exact HC0_0.out); (case side3 => repeat (first | exact (Kd.qY HR0_1.out HB.out) | (with_reducible refine Kd.qZ ?_ _) | (with_reducible refine Kd.zA ?_ _) | (with_reducible refine Kd.zC ?_))); (case side4 => exact HC0_1.out); rintro e w20 ⟨v245, v248, rfl, ho0, ho1, hb⟩; refine ⟨_, rfl, ?_⟩; have n0_ := Aside0.mk (Kd.zG ho0 (qM (by repeat (first | (with_reducible first | exact HB.out | apply qH | apply qA | apply qG | refine qF ?_ GE242.out) | exact HB.out)))); have n1_ := Aside0.mk (Kd.zG ho1 (qM (by repeat (first | (with_reducible first | exact HB.out | apply qH | apply qA | apply qG | refine qF ?_ GE242.out) | exact HB.out)))); have n2_ := Aside0.mk (qL (g := gb242) (o := .cells #[.slice A0_0 l0_0.length c0_0, .slice A0_1 l0_1.length c0_1, .int .i64 a0_2, .int .i64 a0_3] 43 (0, 0)) (by (with_reducible repeat (first | refine qE ?_ _ | refine qI ?_ | refine qD ?_ _)); exact BK242.out) hb); have n3_ := Aside0.mk (qO (by repeat (first | (with_reducible first | exact HB.out | apply qH | apply qA | apply qG | refine qF ?_ GE242.out) | exact HB.out)) hb); clear BK242; clear HB; have HO246 := n0_; have HO249 := n1_; have BK242 := n2_; have HB := n3_; clear n0_ n1_ n2_ n3_; (try clear hb); (try clear hb2); (try clear hk); (try clear hi); (try clear ho0); (try clear ho1); obtain ⟨Ao21, co21, eo21⟩ := Kd.zE HO246.out; subst eo21; obtain ⟨Ao22, co22, eo22⟩ := Kd.zE HO249.out; subst eo22) | ((with_reducible refine qT (f := 18) rfl ?_); refine zD (some 31) rfl rfl Try.func18 (by kernel_rfl) rfl #[.agg #[.slice Ao21 t244.length co21, .slice Ao22 t247.length co22, .int .i64 t250, .int .i64 t251], .int .i64 a1, .string a2] rfl (by (try simp only [List.map_toArray, List.map_cons, List.map_nil]); first | done | rfl | (simp only [List.length_drop, List.length_take]; rfl)) ?_; (with_reducible refine (spec_DiskWrite.calls k _ _ t244 _ _ t247 t250 t251 a1 a2 t252 t255 t258 t259 t260 _ ?side1 ?side2 ?side3 ?side4 A12.out).mono ?_); (case side1 => repeat (first | exact (Kd.qS HO246.out).2.2 | (with_reducible refine Kd.qZ ?_ _) | (with_reducible refine Kd.zA ?_ _) | (with_reducible refine Kd.zC ?_))); (case side2 => exact (Kd.qS HO246.out).2.1); (case side3 => repeat (first | exact (Kd.qS HO249.out).2.2 | (with_reducible refine Kd.qZ ?_ _) | (with_reducible refine Kd.zA ?_ _) | (with_reducible refine Kd.zC ?_))); (case side4 => exact (Kd.qS HO249.out).2.1); rintro e w23 ⟨v253, v256, rfl, ho0, ho1, hb⟩; refine ⟨_, rfl, ?_⟩; have n0_ := Aside0.mk (Kd.zF (by (with_reducible repeat (first | apply Kd.qK | apply Kd.qJ | apply Kd.qN)); exact HO246.out) (Kd.zI ho0) hb); have n1_ := Aside0.mk (Kd.zF (by (with_reducible repeat (first | apply Kd.qK | apply Kd.qJ | apply Kd.qN)); exact HO249.out) (Kd.zI ho1) hb); have n2_ := Aside0.mk (Kd.zG (Kd.zJ ho0 (Kd.R_lt (by (with_reducible repeat (first | apply Kd.qK | apply Kd.qJ | apply Kd.qN)); exact HO246.out))) (qM (by repeat (first | (with_reducible first | exact HB.out | apply qH | apply qA | apply qG | refine qF ?_ GE242.out) | exact HB.out)))); have n3_ := Aside0.mk (Kd.zG (Kd.zJ ho1 (Kd.R_lt (by (with_reducible repeat (first | apply Kd.qK | apply Kd.qJ | apply Kd.qN)); exact HO249.out))) (qM (by repeat (first | (with_reducible first | exact HB.out | apply qH | apply qA | apply qG | refine qF ?_ GE242.out) | exact HB.out)))); have n4_ := Aside0.mk (qL (g := gb242) (o := .cells #[.slice A0_0 l0_0.length c0_0, .slice A0_1 l0_1.length c0_1, .int .i64 a0_2, .int .i64 a0_3] 43 (0, 0)) (by (with_reducible repeat (first | refine qE ?_ _ | refine qI ?_ | refine qD ?_ _)); exact BK242.out) hb); have n5_ := Aside0.mk (qO (by repeat (first | (with_reducible first | exact HB.out | apply qH | apply qA | apply qG | refine qF ?_ GE242.out) | exact HB.out)) hb); clear HO246; clear HO249; clear BK242; clear HB; have HO246 := n0_; have HO249 := n1_; have HO254 := n2_; have HO257 := n3_; have BK242 := n4_; have HB := n5_; clear n0_ n1_ n2_ n3_ n4_ n5_; (try clear hb); (try clear hb2); (try clear hk); (try clear hi); (try clear ho0); (try clear ho1)) | ((with_reducible refine qX (N := 8) rfl ?_); refine qW ?hg (N := 8) ?hd (cs := #[.slice none 0 0, .slice none 0 0, .int .i64 0, .int .i64 0]) (t := 26) ?hr ?_; (case hd => rfl); (case hg => rfl); (case hr => first | (go_simp; done) | (go_simp; rfl)); intro gb261 hg w24 hbox hb; have n0_ := Aside0.mk (Kd.qR (by (with_reducible repeat (first | apply Kd.qK | apply Kd.qJ | apply Kd.qN)); exact HO246.out) hb); have n1_ := Aside0.mk (Kd.qR (by (with_reducible repeat (first | apply Kd.qK | apply Kd.qJ | apply Kd.qN)); exact HO249.out) hb); have n2_ := Aside0.mk (Kd.qR (by (with_reducible repeat (first | apply Kd.qK | apply Kd.qJ | apply Kd.qN)); exact HO254.out) hb); have n3_ := Aside0.mk (Kd.qR (by (with_reducible repeat (first | apply Kd.qK | apply Kd.qJ | apply Kd.qN)); exact HO257.out) hb); have n4_ := Aside0.mk (qL (g := gb242) (o := .cells #[.slice A0_0 l0_0.length c0_0, .slice A0_1 l0_1.length c0_1, .int .i64 a0_2, .int .i64 a0_3] 43 (0, 0)) (by (with_reducible repeat (first | refine qE ?_ _ | refine qI ?_ | refine qD ?_ _)); exact BK242.out) hb); have n5_ := Aside0.mk (qO (by repeat (first | (with_reducible first | exact HB.out | apply qH | apply qA | apply qG | refine qF ?_ GE242.out) | exact HB.out)) hb); have n6_ := Aside0.mk (hbox); have n7_ := Aside0.mk ((by rw [hg]; exact (qM (by repeat (first | (with_reducible first | exact HB.out | apply qH | apply qA | apply qG | refine qF ?_ GE242.out) | exact HB.out))) : w.heap.size ≤ gb261)); have n8_ := Aside0.mk ((by rw [hg]; exact (qM (by repeat (first | (with_reducible first | exact HB.out | apply qH | apply qA | apply qG | refine qF ?_ GE242.out) | exact HB.out))) : w.heap.size ≤ gb261)); have n9_ := Aside0.mk ((by rw [hg]; exact Nat.ne_of_lt (zB (g := gb242) (o := .cells #[.slice A0_0 l0_0.length c0_0, .slice A0_1 l0_1.length c0_1, .int .i64 a0_2, .int .i64 a0_3] 43 (0, 0)) (by (with_reducible repeat (first | refine qE ?_ _ | refine qI ?_ | refine qD ?_ _)); exact BK242.out)) : gb242 ≠ gb261)); have n10_ := Aside0.mk ((by rw [hg]; exact Nat.ne_of_gt (zB (g := gb242) (o := .cells #[.slice A0_0 l0_0.length c0_0, .slice A0_1 l0_1.length c0_1, .int .i64 a0_2, .int .i64 a0_3] 43 (0, 0)) (by (with_reducible repeat (first | refine qE ?_ _ | refine qI ?_ | refine qD ?_ _)); exact BK242.out)) : gb261 ≠ gb242)); clear HO246; clear HO249; clear HO254; clear HO257; clear BK242; clear HB; have HO246 := n0_; have HO249 := n1_; have HO254 := n2_; have HO257 := n3_; have BK242 := n4_; have HB := n5_; have BK261 := n6_; have GW261 := n7_; have GE261 := n8_; have NB242_261 := n9_; have NB261_242 := n10_; clear n0_ n1_ n2_ n3_ n4_ n5_ n6_ n7_ n8_ n9_ n10_; clear hb hbox hg; obtain ⟨Ao25, co25, eo25⟩ := Kd.zE HO254.out; subst eo25; have hnb26 := NB261_242.out; have hnc26 := NB242_261.out; have hcz27_0 : w24.cell? ⟨gb261, 0, none⟩ = some (.slice none 0 0) := (qC BK261.out 0).trans rfl; have hcz27_1 : w24.cell? ⟨gb261, 1, none⟩ = some (.slice none 0 0) := (qC BK261.out 1).trans rfl; have hcz27_2 : w24.cell? ⟨gb261, 2, none⟩ = some (.int .i64 0) := (qC BK261.out 2).trans rfl; have hcz27_3 : w24.cell? ⟨gb261, 3, none⟩ = some (.int .i64 0) := (qC BK261.out 3).trans rfl; have hfz27_0 := qB BK261.out 0; have hfz27_1 := qB BK261.out 1; have hfz27_2 := qB BK261.out 2; have hfz27_3 := qB BK261.out 3; obtain ⟨Ao28, co28, eo28⟩ := Kd.zE HO257.out; subst eo28; have hcz29_0 : w24.cell? ⟨gb242, 0, none⟩ = some (.slice A0_0 l0_0.length c0_0) := (qC BK242.out 0).trans rfl; have hcz29_1 : w24.cell? ⟨gb242, 1, none⟩ = some (.slice A0_1 l0_1.length c0_1) := (qC BK242.out 1).trans rfl; have hcz29_2 : w24.cell? ⟨gb242, 2, none⟩ = some (.int .i64 a0_2) := (qC BK242.out 2).trans rfl; have hcz29_3 : w24.cell? ⟨gb242, 3, none⟩ = some (.int .i64 a0_3) := (qC BK242.out 3).trans rfl; have hfz29_0 := qB BK242.out 0; have hfz29_1 := qB BK242.out 1; have hfz29_2 := qB BK242.out 2; have hfz29_3 := qB BK242.out 3) | ((with_reducible refine qT (f := 24) rfl ?_); refine zD (some 35) rfl rfl Try.func24 (by kernel_rfl) rfl #[.agg #[.slice A0_0 l0_0.length c0_0, .slice A0_1 l0_1.length c0_1, .int .i64 a0_2, .int .i64 a0_3]] rfl (by (try simp only [List.map_toArray, List.map_cons, List.map_nil]); first | done | rfl | (simp only [List.length_drop, List.length_take]; rfl)) ?_; (with_reducible refine (laws_toDisk.calls k _ _ l0_0 _ _ l0_1 a0_2 a0_3 t262 t265 t268 t269 _ ?side1 ?side2 ?side3 ?side4 A13.out).mono ?_); (case side1 => exact Kd.qY HR0_0.out (by repeat (first | (with_reducible first | exact HB.out | apply qH | apply qA | apply qG | refine qF ?_ GE242.out | refine qF ?_ GE261.out) | exact HB.out))); (case side2 => exact HC0_0.out); (case side3 => exact Kd.qY HR0_1.out (by repeat (first | (with_reducible first | exact HB.out | apply qH | apply qA | apply qG | refine qF ?_ GE242.out | refine qF ?_ GE261.out) | exact HB.out))); (case side4 => exact HC0_1.out); rintro e w30 ⟨v263, v266, rfl, ho0, ho1, hb⟩; refine ⟨_, rfl, ?_⟩; have n0_ := Aside0.mk (Kd.zF (by (with_reducible repeat (first | apply Kd.qK | apply Kd.qJ | apply Kd.qN)); exact (Kd.qP (Kd.R_far (p := ⟨gb261, 3, none⟩) (Kd.R_far (p := ⟨gb261, 2, none⟩) (Kd.R_far (p := ⟨gb261, 1, none⟩) (Kd.R_far (p := ⟨gb261, 0, none⟩) (Kd.qV HO246.out BK261.out (by decide)) (fun _ hk => hk.2) (.slice Ao25 t252.length co25)) (fun _ hk => hk.2) (.slice Ao28 t255.length co28)) (fun _ hk => hk.2) (.int .i64 t258)) (fun _ hk => hk.2) (.int .i64 t259)) (fun _ h_ => h_.1))) (Kd.zI ho0) hb); have n1_ := Aside0.mk (Kd.zF (by (with_reducible repeat (first | apply Kd.qK | apply Kd.qJ | apply Kd.qN)); exact (Kd.qP (Kd.R_far (p := ⟨gb261, 3, none⟩) (Kd.R_far (p := ⟨gb261, 2, none⟩) (Kd.R_far (p := ⟨gb261, 1, none⟩) (Kd.R_far (p := ⟨gb261, 0, none⟩) (Kd.qV HO249.out BK261.out (by decide)) (fun _ hk => hk.2) (.slice Ao25 t252.length co25)) (fun _ hk => hk.2) (.slice Ao28 t255.length co28)) (fun _ hk => hk.2) (.int .i64 t258)) (fun _ hk => hk.2) (.int .i64 t259)) (fun _ h_ => h_.1))) (Kd.zI ho1) hb); have n2_ := Aside0.mk (Kd.zF (by (with_reducible repeat (first | apply Kd.qK | apply Kd.qJ | apply Kd.qN)); exact (Kd.qP (Kd.R_far (p := ⟨gb261, 3, none⟩) (Kd.R_far (p := ⟨gb261, 2, none⟩) (Kd.R_far (p := ⟨gb261, 1, none⟩) (Kd.R_far (p := ⟨gb261, 0, none⟩) (Kd.qV HO254.out BK261.out (by decide)) (fun _ hk => hk.2) (.slice Ao25 t252.length co25)) (fun _ hk => hk.2) (.slice Ao28 t255.length co28)) (fun _ hk => hk.2) (.int .i64 t258)) (fun _ hk => hk.2) (.int .i64 t259)) (fun _ h_ => h_.1))) (Kd.zI ho0) hb); have n3_ := Aside0.mk (Kd.zF (by (with_reducible repeat (first | apply Kd.qK | apply Kd.qJ | apply Kd.qN)); exact (Kd.qP (Kd.R_far (p := ⟨gb261, 3, none⟩) (Kd.R_far (p := ⟨gb261, 2, none⟩) (Kd.R_far (p := ⟨gb261, 1, none⟩) (Kd.R_far (p := ⟨gb261, 0, none⟩) (Kd.qV HO257.out BK261.out (by decide)) (fun _ hk => hk.2) (.slice Ao25 t252.length co25)) (fun _ hk => hk.2) (.slice Ao28 t255.length co28)) (fun _ hk => hk.2) (.int .i64 t258)) (fun _ hk => hk.2) (.int .i64 t259)) (fun _ h_ => h_.1))) (Kd.zI ho1) hb); have n4_ := Aside0.mk (Kd.zG (Kd.zJ (Kd.zJ ho0 (Kd.R_lt (by (with_reducible repeat (first | apply Kd.qK | apply Kd.qJ | apply Kd.qN)); exact (Kd.qP (Kd.R_far (p := ⟨gb261, 3, none⟩) (Kd.R_far (p := ⟨gb261, 2, none⟩) (Kd.R_far (p := ⟨gb261, 1, none⟩) (Kd.R_far (p := ⟨gb261, 0, none⟩) (Kd.qV HO246.out BK261.out (by decide)) (fun _ hk => hk.2) (.slice Ao25 t252.length co25)) (fun _ hk => hk.2) (.slice Ao28 t255.length co28)) (fun _ hk => hk.2) (.int .i64 t258)) (fun _ hk => hk.2) (.int .i64 t259)) (fun _ h_ => h_.1))))) (Kd.R_lt (by (with_reducible repeat (first | apply Kd.qK | apply Kd.qJ | apply Kd.qN)); exact (Kd.qP (Kd.R_far (p := ⟨gb261, 3, none⟩) (Kd.R_far (p := ⟨gb261, 2, none⟩) (Kd.R_far (p := ⟨gb261, 1, none⟩) (Kd.R_far (p := ⟨gb261, 0, none⟩) (Kd.qV HO254.out BK261.out (by decide)) (fun _ hk => hk.2) (.slice Ao25 t252.length co25)) (fun _ hk => hk.2) (.slice Ao28 t255.length co28)) (fun _ hk => hk.2) (.int .i64 t258)) (fun _ hk => hk.2) (.int .i64 t259)) (fun _ h_ => h_.1))))) (qM (by repeat (first | (with_reducible first | exact HB.out | apply qH | apply qA | apply qG | refine qF ?_ GE242.out | refine qF ?_ GE261.out) | exact HB.out)))); have n5_ := Aside0.mk (Kd.zG (Kd.zJ (Kd.zJ ho1 (Kd.R_lt (by (with_reducible repeat (first | apply Kd.qK | apply Kd.qJ | apply Kd.qN)); exact (Kd.qP (Kd.R_far (p := ⟨gb261, 3, none⟩) (Kd.R_far (p := ⟨gb261, 2, none⟩) (Kd.R_far (p := ⟨gb261, 1, none⟩) (Kd.R_far (p := ⟨gb261, 0, none⟩) (Kd.qV HO249.out BK261.out (by decide)) (fun _ hk => hk.2) (.slice Ao25 t252.length co25)) (fun _ hk => hk.2) (.slice Ao28 t255.length co28)) (fun _ hk => hk.2) (.int .i64 t258)) (fun _ hk => hk.2) (.int .i64 t259)) (fun _ h_ => h_.1))))) (Kd.R_lt (by (with_reducible repeat (first | apply Kd.qK | apply Kd.qJ | apply Kd.qN)); exact (Kd.qP (Kd.R_far (p := ⟨gb261, 3, none⟩) (Kd.R_far (p := ⟨gb261, 2, none⟩) (Kd.R_far (p := ⟨gb261, 1, none⟩) (Kd.R_far (p := ⟨gb261, 0, none⟩) (Kd.qV HO257.out BK261.out (by decide)) (fun _ hk => hk.2) (.slice Ao25 t252.length co25)) (fun _ hk => hk.2) (.slice Ao28 t255.length co28)) (fun _ hk => hk.2) (.int .i64 t258)) (fun _ hk => hk.2) (.int .i64 t259)) (fun _ h_ => h_.1))))) (qM (by repeat (first | (with_reducible first | exact HB.out | apply qH | apply qA | apply qG | refine qF ?_ GE242.out | refine qF ?_ GE261.out) | exact HB.out)))); have n6_ := Aside0.mk (qL (g := gb242) (o := .cells #[.slice A0_0 l0_0.length c0_0, .slice A0_1 l0_1.length c0_1, .int .i64 a0_2, .int .i64 a0_3] 43 (0, 0)) (by (with_reducible repeat (first | refine qE ?_ _ | refine qI ?_ | refine qD ?_ _)); refine qQ ?_ NB242_261.out _; (with_reducible repeat (first | refine qE ?_ _ | refine qI ?_ | refine qD ?_ _)); refine qQ ?_ NB242_261.out _; (with_reducible repeat (first | refine qE ?_ _ | refine qI ?_ | refine qD ?_ _)); refine qQ ?_ NB242_261.out _; (with_reducible repeat (first | refine qE ?_ _ | refine qI ?_ | refine qD ?_ _)); refine qQ ?_ NB242_261.out _; (with_reducible repeat (first | refine qE ?_ _ | refine qI ?_ | refine qD ?_ _)); exact BK242.out) hb); have n7_ := Aside0.mk (qL (g := gb261) (o := .cells #[.slice Ao25 t252.length co25, .slice Ao28 t255.length co28, .int .i64 t258, .int .i64 t259] 26 (0, 0)) (by (with_reducible repeat (first | refine qE ?_ _ | refine qI ?_ | refine qD ?_ _)); refine qU (cs := #[.slice Ao25 t252.length co25, .slice Ao28 t255.length co28, .int .i64 t258, .int .i64 0]) ?_ 3 _ rfl; (with_reducible repeat (first | refine qE ?_ _ | refine qI ?_ | refine qD ?_ _)); refine qU (cs := #[.slice Ao25 t252.length co25, .slice Ao28 t255.length co28, .int .i64 0, .int .i64 0]) ?_ 2 _ rfl; (with_reducible repeat (first | refine qE ?_ _ | refine qI ?_ | refine qD ?_ _)); refine qU (cs := #[.slice Ao25 t252.length co25, .slice none 0 0, .int .i64 0, .int .i64 0]) ?_ 1 _ rfl; (with_reducible repeat (first | refine qE ?_ _ | refine qI ?_ | refine qD ?_ _)); refine qU (cs := #[.slice none 0 0, .slice none 0 0, .int .i64 0, .int .i64 0]) ?_ 0 _ rfl; (with_reducible repeat (first | refine qE ?_ _ | refine qI ?_ | refine qD ?_ _)); exact BK261.out) hb); have n8_ := Aside0.mk (qO (by repeat (first | (with_reducible first | exact HB.out | apply qH | apply qA | apply qG | refine qF ?_ GE242.out | refine qF ?_ GE261.out) | exact HB.out)) hb); clear HO246; clear HO249; clear HO254; clear HO257; clear BK242; clear BK261; clear HB; have HO246 := n0_; have HO249 := n1_; have HO254 := n2_; have HO257 := n3_; have HO264 := n4_; have HO267 := n5_; have BK242 := n6_; have BK261 := n7_; have HB := n8_; clear n0_ n1_ n2_ n3_ n4_ n5_ n6_ n7_ n8_; (try clear hb); (try clear hb2); (try clear hk); (try clear hi); (try clear ho0); (try clear ho1)) | ((with_reducible refine qX (N := 10) rfl ?_); refine qW ?hg (N := 10) ?hd (cs := #[.slice none 0 0, .slice none 0 0, .int .i64 0, .int .i64 0]) (t := 26) ?hr ?_; (case hd => rfl); (case hg => rfl); (case hr => first | (go_simp; done) | (go_simp; rfl)); intro gb270 hg w31 hbox hb; have n0_ := Aside0.mk (Kd.qR (by (with_reducible repeat (first | apply Kd.qK | apply Kd.qJ | apply Kd.qN)); exact HO246.out) hb); have n1_ := Aside0.mk (Kd.qR (by (with_reducible repeat (first | apply Kd.qK | apply Kd.qJ | apply Kd.qN)); exact HO249.out) hb); have n2_ := Aside0.mk (Kd.qR (by (with_reducible repeat (first | apply Kd.qK | apply Kd.qJ | apply Kd.qN)); exact HO254.out) hb); have n3_ := Aside0.mk (Kd.qR (by (with_reducible repeat (first | apply Kd.qK | apply Kd.qJ | apply Kd.qN)); exact HO257.out) hb); have n4_ := Aside0.mk (Kd.qR (by (with_reducible repeat (first | apply Kd.qK | apply Kd.qJ | apply Kd.qN)); exact HO264.out) hb); have n5_ := Aside0.mk (Kd.qR (by (with_reducible repeat (first | apply Kd.qK | apply Kd.qJ | apply Kd.qN)); exact HO267.out) hb); have n6_ := Aside0.mk (qL (g := gb242) (o := .cells #[.slice A0_0 l0_0.length c0_0, .slice A0_1 l0_1.length c0_1, .int .i64 a0_2, .int .i64 a0_3] 43 (0, 0)) (by (with_reducible repeat (first | refine qE ?_ _ | refine qI ?_ | refine qD ?_ _)); exact BK242.out) hb); have n7_ := Aside0.mk (qL (g := gb261) (o := .cells #[.slice Ao25 t252.length co25, .slice Ao28 t255.length co28, .int .i64 t258, .int .i64 t259] 26 (0, 0)) (by (with_reducible repeat (first | refine qE ?_ _ | refine qI ?_ | refine qD ?_ _)); exact BK261.out) hb); have n8_ := Aside0.mk (qO (by repeat (first | (with_reducible first | exact HB.out | apply qH | apply qA | apply qG | refine qF ?_ GE242.out | refine qF ?_ GE261.out) | exact HB.out)) hb); have n9_ := Aside0.mk (hbox); have n10_ := Aside0.mk ((by rw [hg]; exact (qM (by repeat (first | (with_reducible first | exact HB.out | apply qH | apply qA | apply qG | refine qF ?_ GE242.out | refine qF ?_ GE261.out) | exact HB.out))) : w.heap.size ≤ gb270)); have n11_ := Aside0.mk ((by rw [hg]; exact (qM (by repeat (first | (with_reducible first | exact HB.out | apply qH | apply qA | apply qG | refine qF ?_ GE242.out | refine qF ?_ GE261.out) | exact HB.out))) : w.heap.size ≤ gb270)); have n12_ := Aside0.mk ((by rw [hg]; exact Nat.ne_of_lt (zB (g := gb242) (o := .cells #[.slice A0_0 l0_0.length c0_0, .slice A0_1 l0_1.length c0_1, .int .i64 a0_2, .int .i64 a0_3] 43 (0, 0)) (by (with_reducible repeat (first | refine qE ?_ _ | refine qI ?_ | refine qD ?_ _)); exact BK242.out)) : gb242 ≠ gb270)); have n13_ := Aside0.mk ((by rw [hg]; exact Nat.ne_of_gt (zB (g := gb242) (o := .cells #[.slice A0_0 l0_0.length c0_0, .slice A0_1 l0_1.length c0_1, .int .i64 a0_2, .int .i64 a0_3] 43 (0, 0)) (by (with_reducible repeat (first | refine qE ?_ _ | refine qI ?_ | refine qD ?_ _)); exact BK242.out)) : gb270 ≠ gb242)); have n14_ := Aside0.mk ((by rw [hg]; exact Nat.ne_of_lt (zB (g := gb261) (o := .cells #[.slice Ao25 t252.length co25, .slice Ao28 t255.length co28, .int .i64 t258, .int .i64 t259] 26 (0, 0)) (by (with_reducible repeat (first | refine qE ?_ _ | refine qI ?_ | refine qD ?_ _)); exact BK261.out)) : gb261 ≠ gb270)); have n15_ := Aside0.mk ((by rw [hg]; exact Nat.ne_of_gt (zB (g := gb261) (o := .cells #[.slice Ao25 t252.length co25, .slice Ao28 t255.length co28, .int .i64 t258, .int .i64 t259] 26 (0, 0)) (by (with_reducible repeat (first | refine qE ?_ _ | refine qI ?_ | refine qD ?_ _)); exact BK261.out)) : gb270 ≠ gb261)); clear HO246; clear HO249; clear HO254; clear HO257; clear HO264; clear HO267; clear BK242; clear BK261; clear HB; have HO246 := n0_; have HO249 := n1_; have HO254 := n2_; have HO257 := n3_; have HO264 := n4_; have HO267 := n5_; have BK242 := n6_; have BK261 := n7_; have HB := n8_; have BK270 := n9_; have GW270 := n10_; have GE270 := n11_; have NB242_270 := n12_; have NB270_242 := n13_; have NB261_270 := n14_; have NB270_261 := n15_; clear n0_ n1_ n2_ n3_ n4_ n5_ n6_ n7_ n8_ n9_ n10_ n11_ n12_ n13_ n14_ n15_; clear hb hbox hg; obtain ⟨Ao32, co32, eo32⟩ := Kd.zE HO264.out; subst eo32; have hnb33 := NB270_242.out; have hnc33 := NB242_270.out; have hnb34 := NB270_261.out; have hnc34 := NB261_270.out; have hcz35_0 : w31.cell? ⟨gb270, 0, none⟩ = some (.slice none 0 0) := (qC BK270.out 0).trans rfl; have hcz35_1 : w31.cell? ⟨gb270, 1, none⟩ = some (.slice none 0 0) := (qC BK270.out 1).trans rfl; have hcz35_2 : w31.cell? ⟨gb270, 2, none⟩ = some (.int .i64 0) := (qC BK270.out 2).trans rfl; have hcz35_3 : w31.cell? ⟨gb270, 3, none⟩ = some (.int .i64 0) := (qC BK270.out 3).trans rfl; have hfz35_0 := qB BK270.out 0; have hfz35_1 := qB BK270.out 1; have hfz35_2 := qB BK270.out 2; have hfz35_3 := qB BK270.out 3; obtain ⟨Ao36, co36, eo36⟩ := Kd.zE HO267.out; subst eo36) | ((with_reducible refine qT (f := 16) rfl ?_); refine zD (some 40) rfl rfl Try.func16 (by kernel_rfl) rfl #[.agg #[.slice Ao32 t262.length co32, .slice Ao36 t265.length co36, .int .i64 t268, .int .i64 t269], .int .i64 a1, .string a2] rfl (by (try simp only [List.map_toArray, List.map_cons, List.map_nil]); first | done | rfl | (simp only [List.length_drop, List.length_take]; rfl)) ?_; (with_reducible refine (impl_DiskWrite.calls _ _ t262 _ _ t265 t268 t269 a1 a2 t271 t274 t277 t278 t279 _ ?side1 ?side2 ?side3 ?side4 A14.out).mono ?_); (case side1 => refine (Kd.qS (e := 9) (base := w.heap.size) (ok := fun k_ => ((True ∧ some k_ ≠ (.slice Ao21 t244.length co21 : Value).ownBlock) ∧ some k_ ≠ (.slice Ao25 t252.length co25 : Value).ownBlock)) (n := t262.length) (c := co32) ?_).2.2; exact (by (with_reducible repeat (first | apply Kd.qK | apply Kd.qJ | apply Kd.qN)); exact (Kd.qP (Kd.R_far (p := ⟨gb270, 3, none⟩) (Kd.R_far (p := ⟨gb270, 2, none⟩) (Kd.R_far (p := ⟨gb270, 1, none⟩) (Kd.R_far (p := ⟨gb270, 0, none⟩) (Kd.qV HO264.out BK270.out (by decide)) (fun _ hk => hk.2) (.slice Ao32 t262.length co32)) (fun _ hk => hk.2) (.slice Ao36 t265.length co36)) (fun _ hk => hk.2) (.int .i64 t268)) (fun _ hk => hk.2) (.int .i64 t269)) (fun _ h_ => h_.1)))); (case side2 => exact (Kd.qS HO264.out).2.1); (case side3 => refine (Kd.qS (e := 70) (base := w.heap.size) (ok := fun k_ => ((True ∧ some k_ ≠ (.slice Ao22 t247.length co22 : Value).ownBlock) ∧ some k_ ≠ (.slice Ao28 t255.length co28 : Value).ownBlock)) (n := t265.length) (c := co36) ?_).2.2; exact (by (with_reducible repeat (first | apply Kd.qK | apply Kd.qJ | apply Kd.qN)); exact (Kd.qP (Kd.R_far (p := ⟨gb270, 3, none⟩) (Kd.R_far (p := ⟨gb270, 2, none⟩) (Kd.R_far (p := ⟨gb270, 1, none⟩) (Kd.R_far (p := ⟨gb270, 0, none⟩) (Kd.qV HO267.out BK270.out (by decide)) (fun _ hk => hk.2) (.slice Ao32 t262.length co32)) (fun _ hk => hk.2) (.slice Ao36 t265.length co36)) (fun _ hk => hk.2) (.int .i64 t268)) (fun _ hk => hk.2) (.int .i64 t269)) (fun _ h_ => h_.1)))); (case side4 => exact (Kd.qS HO267.out).2.1); rintro e w37 ⟨v272, v275, rfl, ho0, ho1, hb⟩; refine ⟨_, rfl, ?_⟩; have n0_ := Aside0.mk (Kd.zF (by (with_reducible repeat (first | apply Kd.qK | apply Kd.qJ | apply Kd.qN)); exact (Kd.qP (Kd.R_far (p := ⟨gb270, 3, none⟩) (Kd.R_far (p := ⟨gb270, 2, none⟩) (Kd.R_far (p := ⟨gb270, 1, none⟩) (Kd.R_far (p := ⟨gb270, 0, none⟩) (Kd.qV HO246.out BK270.out (by decide)) (fun _ hk => hk.2) (.slice Ao32 t262.length co32)) (fun _ hk => hk.2) (.slice Ao36 t265.length co36)) (fun _ hk => hk.2) (.int .i64 t268)) (fun _ hk => hk.2) (.int .i64 t269)) (fun _ h_ => h_.1))) (Kd.zI ho0) hb); have n1_ := Aside0.mk (Kd.zF (by (with_reducible repeat (first | apply Kd.qK | apply Kd.qJ | apply Kd.qN)); exact (Kd.qP (Kd.R_far (p := ⟨gb270, 3, none⟩) (Kd.R_far (p := ⟨gb270, 2, none⟩) (Kd.R_far (p := ⟨gb270, 1, none⟩) (Kd.R_far (p := ⟨gb270, 0, none⟩) (Kd.qV HO249.out BK270.out (by decide)) (fun _ hk => hk.2) (.slice Ao32 t262.length co32)) (fun _ hk => hk.2) (.slice Ao36 t265.length co36)) (fun _ hk => hk.2) (.int .i64 t268)) (fun _ hk => hk.2) (.int .i64 t269)) (fun _ h_ => h_.1))) (Kd.zI ho1) hb); have n2_ := Aside0.mk (Kd.zF (by (with_reducible repeat (first | apply Kd.qK | apply Kd.qJ | apply Kd.qN)); exact (Kd.qP (Kd.R_far (p := ⟨gb270, 3, none⟩) (Kd.R_far (p := ⟨gb270, 2, none⟩) (Kd.R_far (p := ⟨gb270, 1, none⟩) (Kd.R_far (p := ⟨gb270, 0, none⟩) (Kd.qV HO254.out BK270.out (by decide)) (fun _ hk => hk.2) (.slice Ao32 t262.length co32)) (fun _ hk => hk.2) (.slice Ao36 t265.length co36)) (fun _ hk => hk.2) (.int .i64 t268)) (fun _ hk => hk.2) (.int .i64 t269)) (fun _ h_ => h_.1))) (Kd.zI ho0) hb); have n3_ := Aside0.mk (Kd.zF (by (with_reducible repeat (first | apply Kd.qK | apply Kd.qJ | apply Kd.qN)); exact (Kd.qP (Kd.R_far (p := ⟨gb270, 3, none⟩) (Kd.R_far (p := ⟨gb270, 2, none⟩) (Kd.R_far (p := ⟨gb270, 1, none⟩) (Kd.R_far (p := ⟨gb270, 0, none⟩) (Kd.qV HO257.out BK270.out (by decide)) (fun _ hk => hk.2) (.slice Ao32 t262.length co32)) (fun _ hk => hk.2) (.slice Ao36 t265.length co36)) (fun _ hk => hk.2) (.int .i64 t268)) (fun _ hk => hk.2) (.int .i64 t269)) (fun _ h_ => h_.1))) (Kd.zI ho1) hb); have n4_ := Aside0.mk (Kd.zF (by (with_reducible repeat (first | apply Kd.qK | apply Kd.qJ | apply Kd.qN)); exact (Kd.qP (Kd.R_far (p := ⟨gb270, 3, none⟩) (Kd.R_far (p := ⟨gb270, 2, none⟩) (Kd.R_far (p := ⟨gb270, 1, none⟩) (Kd.R_far (p := ⟨gb270, 0, none⟩) (Kd.qV HO264.out BK270.out (by decide)) (fun _ hk => hk.2) (.slice Ao32 t262.length co32)) (fun _ hk => hk.2) (.slice Ao36 t265.length co36)) (fun _ hk => hk.2) (.int .i64 t268)) (fun _ hk => hk.2) (.int .i64 t269)) (fun _ h_ => h_.1))) (Kd.zI ho0) hb); have n5_ := Aside0.mk (Kd.zF (by (with_reducible repeat (first | apply Kd.qK | apply Kd.qJ | apply Kd.qN)); exact (Kd.qP (Kd.R_far (p := ⟨gb270, 3, none⟩) (Kd.R_far (p := ⟨gb270, 2, none⟩) (Kd.R_far (p := ⟨gb270, 1, none⟩) (Kd.R_far (p := ⟨gb270, 0, none⟩) (Kd.qV HO267.out BK270.out (by decide)) (fun _ hk => hk.2) (.slice Ao32 t262.length co32)) (fun _ hk => hk.2) (.slice Ao36 t265.length co36)) (fun _ hk => hk.2) (.int .i64 t268)) (fun _ hk => hk.2) (.int .i64 t269)) (fun _ h_ => h_.1))) (Kd.zI ho1) hb); have n6_ := Aside0.mk (Kd.zG (Kd.zJ (Kd.zJ (Kd.zJ ho0 (Kd.R_lt (by (with_reducible repeat (first | apply Kd.qK | apply Kd.qJ | apply Kd.qN)); exact (Kd.qP (Kd.R_far (p := ⟨gb270, 3, none⟩) (Kd.R_far (p := ⟨gb270, 2, none⟩) (Kd.R_far (p := ⟨gb270, 1, none⟩) (Kd.R_far (p := ⟨gb270, 0, none⟩) (Kd.qV HO246.out BK270.out (by decide)) (fun _ hk => hk.2) (.slice Ao32 t262.length co32)) (fun _ hk => hk.2) (.slice Ao36 t265.length co36)) (fun _ hk => hk.2) (.int .i64 t268)) (fun _ hk => hk.2) (.int .i64 t269)) (fun _ h_ => h_.1))))) (Kd.R_lt (by (with_reducible repeat (first | apply Kd.qK | apply Kd.qJ | apply Kd.qN)); exact (Kd.qP (Kd.R_far (p := ⟨gb270, 3, none⟩) (Kd.R_far (p := ⟨gb270, 2, none⟩) (Kd.R_far (p := ⟨gb270, 1, none⟩) (Kd.R_far (p := ⟨gb270, 0, none⟩) (Kd.qV HO254.out BK270.out (by decide)) (fun _ hk => hk.2) (.slice Ao32 t262.length co32)) (fun _ hk => hk.2) (.slice Ao36 t265.length co36)) (fun _ hk => hk.2) (.int .i64 t268)) (fun _ hk => hk.2) (.int .i64 t269)) (fun _ h_ => h_.1))))) (Kd.R_lt (by (with_reducible repeat (first | apply Kd.qK | apply Kd.qJ | apply Kd.qN)); exact (Kd.qP (Kd.R_far (p := ⟨gb270, 3, none⟩) (Kd.R_far (p := ⟨gb270, 2, none⟩) (Kd.R_far (p := ⟨gb270, 1, none⟩) (Kd.R_far (p := ⟨gb270, 0, none⟩) (Kd.qV HO264.out BK270.out (by decide)) (fun _ hk => hk.2) (.slice Ao32 t262.length co32)) (fun _ hk => hk.2) (.slice Ao36 t265.length co36)) (fun _ hk => hk.2) (.int .i64 t268)) (fun _ hk => hk.2) (.int .i64 t269)) (fun _ h_ => h_.1))))) (qM (by repeat (first | (with_reducible first | exact HB.out | apply qH | apply qA | apply qG | refine qF ?_ GE242.out | refine qF ?_ GE261.out | refine qF ?_ GE270.out) | exact HB.out)))); have n7_ := Aside0.mk (Kd.zG (Kd.zJ (Kd.zJ (Kd.zJ ho1 (Kd.R_lt (by (with_reducible repeat (first | apply Kd.qK | apply Kd.qJ | apply Kd.qN)); exact (Kd.qP (Kd.R_far (p := ⟨gb270, 3, none⟩) (Kd.R_far (p := ⟨gb270, 2, none⟩) (Kd.R_far (p := ⟨gb270, 1, none⟩) (Kd.R_far (p := ⟨gb270, 0, none⟩) (Kd.qV HO249.out BK270.out (by decide)) (fun _ hk => hk.2) (.slice Ao32 t262.length co32)) (fun _ hk => hk.2) (.slice Ao36 t265.length co36)) (fun _ hk => hk.2) (.int .i64 t268)) (fun _ hk => hk.2) (.int .i64 t269)) (fun _ h_ => h_.1))))) (Kd.R_lt (by (with_reducible repeat (first | apply Kd.qK | apply Kd.qJ | apply Kd.qN)); exact (Kd.qP (Kd.R_far (p := ⟨gb270, 3, none⟩) (Kd.R_far (p := ⟨gb270, 2, none⟩) (Kd.R_far (p := ⟨gb270, 1, none⟩) (Kd.R_far (p := ⟨gb270, 0, none⟩) (Kd.qV HO257.out BK270.out (by decide)) (fun _ hk => hk.2) (.slice Ao32 t262.length co32)) (fun _ hk => hk.2) (.slice Ao36 t265.length co36)) (fun _ hk => hk.2) (.int .i64 t268)) (fun _ hk => hk.2) (.int .i64 t269)) (fun _ h_ => h_.1))))) (Kd.R_lt (by (with_reducible repeat (first | apply Kd.qK | apply Kd.qJ | apply Kd.qN)); exact (Kd.qP (Kd.R_far (p := ⟨gb270, 3, none⟩) (Kd.R_far (p := ⟨gb270, 2, none⟩) (Kd.R_far (p := ⟨gb270, 1, none⟩) (Kd.R_far (p := ⟨gb270, 0, none⟩) (Kd.qV HO267.out BK270.out (by decide)) (fun _ hk => hk.2) (.slice Ao32 t262.length co32)) (fun _ hk => hk.2) (.slice Ao36 t265.length co36)) (fun _ hk => hk.2) (.int .i64 t268)) (fun _ hk => hk.2) (.int .i64 t269)) (fun _ h_ => h_.1))))) (qM (by repeat (first | (with_reducible first | exact HB.out | apply qH | apply qA | apply qG | refine qF ?_ GE242.out | refine qF ?_ GE261.out | refine qF ?_ GE270.out) | exact HB.out)))); have n8_ := Aside0.mk (qL (g := gb242) (o := .cells #[.slice A0_0 l0_0.length c0_0, .slice A0_1 l0_1.length c0_1, .int .i64 a0_2, .int .i64 a0_3] 43 (0, 0)) (by (with_reducible repeat (first | refine qE ?_ _ | refine qI ?_ | refine qD ?_ _)); refine qQ ?_ NB242_270.out _; (with_reducible repeat (first | refine qE ?_ _ | refine qI ?_ | refine qD ?_ _)); refine qQ ?_ NB242_270.out _; (with_reducible repeat (first | refine qE ?_ _ | refine qI ?_ | refine qD ?_ _)); refine qQ ?_ NB242_270.out _; (with_reducible repeat (first | refine qE ?_ _ | refine qI ?_ | refine qD ?_ _)); refine qQ ?_ NB242_270.out _; (with_reducible repeat (first | refine qE ?_ _ | refine qI ?_ | refine qD ?_ _)); exact BK242.out) hb); have n9_ := Aside0.mk (qL (g := gb261) (o := .cells #[.slice Ao25 t252.length co25, .slice Ao28 t255.length co28, .int .i64 t258, .int .i64 t259] 26 (0, 0)) (by (with_reducible repeat (first | refine qE ?_ _ | refine qI ?_ | refine qD ?_ _)); refine qQ ?_ NB261_270.out _; (with_reducible repeat (first | refine qE ?_ _ | refine qI ?_ | refine qD ?_ _)); refine qQ ?_ NB261_270.out _; (with_reducible repeat (first | refine qE ?_ _ | refine qI ?_ | refine qD ?_ _)); refine qQ ?_ NB261_270.out _; (with_reducible repeat (first | refine qE ?_ _ | refine qI ?_ | refine qD ?_ _)); refine qQ ?_ NB261_270.out _; (with_reducible repeat (first | refine qE ?_ _ | refine qI ?_ | refine qD ?_ _)); exact BK261.out) hb); have n10_ := Aside0.mk (qL (g := gb270) (o := .cells #[.slice Ao32 t262.length co32, .slice Ao36 t265.length co36, .int .i64 t268, .int .i64 t269] 26 (0, 0)) (by (with_reducible repeat (first | refine qE ?_ _ | refine qI ?_ | refine qD ?_ _)); refine qU (cs := #[.slice Ao32 t262.length co32, .slice Ao36 t265.length co36, .int .i64 t268, .int .i64 0]) ?_ 3 _ rfl; (with_reducible repeat (first | refine qE ?_ _ | refine qI ?_ | refine qD ?_ _)); refine qU (cs := #[.slice Ao32 t262.length co32, .slice Ao36 t265.length co36, .int .i64 0, .int .i64 0]) ?_ 2 _ rfl; (with_reducible repeat (first | refine qE ?_ _ | refine qI ?_ | refine qD ?_ _)); refine qU (cs := #[.slice Ao32 t262.length co32, .slice none 0 0, .int .i64 0, .int .i64 0]) ?_ 1 _ rfl; (with_reducible repeat (first | refine qE ?_ _ | refine qI ?_ | refine qD ?_ _)); refine qU (cs := #[.slice none 0 0, .slice none 0 0, .int .i64 0, .int .i64 0]) ?_ 0 _ rfl; (with_reducible repeat (first | refine qE ?_ _ | refine qI ?_ | refine qD ?_ _)); exact BK270.out) hb); have n11_ := Aside0.mk (qO (by repeat (first | (with_reducible first | exact HB.out | apply qH | apply qA | apply qG | refine qF ?_ GE242.out | refine qF ?_ GE261.out | refine qF ?_ GE270.out) | exact HB.out)) hb); clear HO246; clear HO249; clear HO254; clear HO257; clear HO264; clear HO267; clear BK242; clear BK261; clear BK270; clear HB; have HO246 := n0_; have HO249 := n1_; have HO254 := n2_; have HO257 := n3_; have HO264 := n4_; have HO267 := n5_; have HO273 := n6_; have HO276 := n7_; have BK242 := n8_; have BK261 := n9_; have BK270 := n10_; have HB := n11_; clear n0_ n1_ n2_ n3_ n4_ n5_ n6_ n7_ n8_ n9_ n10_ n11_; (try clear hb); (try clear hb2); (try clear hk); (try clear hi); (try clear ho0); (try clear ho1)) | ((with_reducible refine qX (N := 11) rfl ?_); refine qW ?hg (N := 11) ?hd (cs := #[.slice none 0 0, .slice none 0 0, .int .i64 0, .int .i64 0]) (t := 26) ?hr ?_; (case hd => rfl); (case hg => rfl); (case hr => first | (go_simp; done) | (go_simp; rfl)); intro gb280 hg w38 hbox hb; have n0_ := Aside0.mk (Kd.qR (by (with_reducible repeat (first | apply Kd.qK | apply Kd.qJ | apply Kd.qN)); exact HO246.out) hb); have n1_ := Aside0.mk (Kd.qR (by (with_reducible repeat (first | apply Kd.qK | apply Kd.qJ | apply Kd.qN)); exact HO249.out) hb); have n2_ := Aside0.mk (Kd.qR (by (with_reducible repeat (first | apply Kd.qK | apply Kd.qJ | apply Kd.qN)); exact HO254.out) hb); have n3_ := Aside0.mk (Kd.qR (by (with_reducible repeat (first | apply Kd.qK | apply Kd.qJ | apply Kd.qN)); exact HO257.out) hb); have n4_ := Aside0.mk (Kd.qR (by (with_reducible repeat (first | apply Kd.qK | apply Kd.qJ | apply Kd.qN)); exact HO264.out) hb); have n5_ := Aside0.mk (Kd.qR (by (with_reducible repeat (first | apply Kd.qK | apply Kd.qJ | apply Kd.qN)); exact HO267.out) hb); have n6_ := Aside0.mk (Kd.qR (by (with_reducible repeat (first | apply Kd.qK | apply Kd.qJ | apply Kd.qN)); exact HO273.out) hb); have n7_ := Aside0.mk (Kd.qR (by (with_reducible repeat (first | apply Kd.qK | apply Kd.qJ | apply Kd.qN)); exact HO276.out) hb); have n8_ := Aside0.mk (qL (g := gb242) (o := .cells #[.slice A0_0 l0_0.length c0_0, .slice A0_1 l0_1.length c0_1, .int .i64 a0_2, .int .i64 a0_3] 43 (0, 0)) (by (with_reducible repeat (first | refine qE ?_ _ | refine qI ?_ | refine qD ?_ _)); exact BK242.out) hb); have n9_ := Aside0.mk (qL (g := gb261) (o := .cells #[.slice Ao25 t252.length co25, .slice Ao28 t255.length co28, .int .i64 t258, .int .i64 t259] 26 (0, 0)) (by (with_reducible repeat (first | refine qE ?_ _ | refine qI ?_ | refine qD ?_ _)); exact BK261.out) hb); have n10_ := Aside0.mk (qL (g := gb270) (o := .cells #[.slice Ao32 t262.length co32, .slice Ao36 t265.length co36, .int .i64 t268, .int .i64 t269] 26 (0, 0)) (by (with_reducible repeat (first | refine qE ?_ _ | refine qI ?_ | refine qD ?_ _)); exact BK270.out) hb); have n11_ := Aside0.mk (qO (by repeat (first | (with_reducible first | exact HB.out | apply qH | apply qA | apply qG | refine qF ?_ GE242.out | refine qF ?_ GE261.out | refine qF ?_ GE270.out) | exact HB.out)) hb); have n12_ := Aside0.mk (hbox); have n13_ := Aside0.mk ((by rw [hg]; exact (qM (by repeat (first | (with_reducible first | exact HB.out | apply qH | apply qA | apply qG | refine qF ?_ GE242.out | refine qF ?_ GE261.out | refine qF ?_ GE270.out) | exact HB.out))) : w.heap.size ≤ gb280)); have n14_ := Aside0.mk ((by rw [hg]; exact (qM (by repeat (first | (with_reducible first | exact HB.out | apply qH | apply qA | apply qG | refine qF ?_ GE242.out | refine qF ?_ GE261.out | refine qF ?_ GE270.out) | exact HB.out))) : w.heap.size ≤ gb280)); have n15_ := Aside0.mk ((by rw [hg]; exact Nat.ne_of_lt (zB (g := gb242) (o := .cells #[.slice A0_0 l0_0.length c0_0, .slice A0_1 l0_1.length c0_1, .int .i64 a0_2, .int .i64 a0_3] 43 (0, 0)) (by (with_reducible repeat (first | refine qE ?_ _ | refine qI ?_ | refine qD ?_ _)); exact BK242.out)) : gb242 ≠ gb280)); have n16_ := Aside0.mk ((by rw [hg]; exact Nat.ne_of_gt (zB (g := gb242) (o := .cells #[.slice A0_0 l0_0.length c0_0, .slice A0_1 l0_1.length c0_1, .int .i64 a0_2, .int .i64 a0_3] 43 (0, 0)) (by (with_reducible repeat (first | refine qE ?_ _ | refine qI ?_ | refine qD ?_ _)); exact BK242.out)) : gb280 ≠ gb242)); have n17_ := Aside0.mk ((by rw [hg]; exact Nat.ne_of_lt (zB (g := gb261) (o := .cells #[.slice Ao25 t252.length co25, .slice Ao28 t255.length co28, .int .i64 t258, .int .i64 t259] 26 (0, 0)) (by (with_reducible repeat (first | refine qE ?_ _ | refine qI ?_ | refine qD ?_ _)); exact BK261.out)) : gb261 ≠ gb280)); have n18_ := Aside0.mk ((by rw [hg]; exact Nat.ne_of_gt (zB (g := gb261) (o := .cells #[.slice Ao25 t252.length co25, .slice Ao28 t255.length co28, .int .i64 t258, .int .i64 t259] 26 (0, 0)) (by (with_reducible repeat (first | refine qE ?_ _ | refine qI ?_ | refine qD ?_ _)); exact BK261.out)) : gb280 ≠ gb261)); have n19_ := Aside0.mk ((by rw [hg]; exact Nat.ne_of_lt (zB (g := gb270) (o := .cells #[.slice Ao32 t262.length co32, .slice Ao36 t265.length co36, .int .i64 t268, .int .i64 t269] 26 (0, 0)) (by (with_reducible repeat (first | refine qE ?_ _ | refine qI ?_ | refine qD ?_ _)); exact BK270.out)) : gb270 ≠ gb280)); have n20_ := Aside0.mk ((by rw [hg]; exact Nat.ne_of_gt (zB (g := gb270) (o := .cells #[.slice Ao32 t262.length co32, .slice Ao36 t265.length co36, .int .i64 t268, .int .i64 t269] 26 (0, 0)) (by (with_reducible repeat (first | refine qE ?_ _ | refine qI ?_ | refine qD ?_ _)); exact BK270.out)) : gb280 ≠ gb270)); clear HO246; clear HO249; clear HO254; clear HO257; clear HO264; clear HO267; clear HO273; clear HO276; clear BK242; clear BK261; clear BK270; clear HB; have HO246 := n0_; have HO249 := n1_; have HO254 := n2_; have HO257 := n3_; have HO264 := n4_; have HO267 := n5_; have HO273 := n6_; have HO276 := n7_; have BK242 := n8_; have BK261 := n9_; have BK270 := n10_; have HB := n11_; have BK280 := n12_; have GW280 := n13_; have GE280 := n14_; have NB242_280 := n15_; have NB280_242 := n16_; have NB261_280 := n17_; have NB280_261 := n18_; have NB270_280 := n19_; have NB280_270 := n20_; clear n0_ n1_ n2_ n3_ n4_ n5_ n6_ n7_ n8_ n9_ n10_ n11_ n12_ n13_ n14_ n15_ n16_ n17_ n18_ n19_ n20_; clear hb hbox hg; obtain ⟨Ao39, co39, eo39⟩ := Kd.zE HO273.out; subst eo39; have hnb40 := NB280_242.out; have hnc40 := NB242_280.out; have hnb41 := NB280_261.out; have hnc41 := NB261_280.out; have hnb42 := NB280_270.out; have hnc42 := NB270_280.out; have hcz43_0 : w38.cell? ⟨gb280, 0, none⟩ = some (.slice none 0 0) := (qC BK280.out 0).trans rfl; have hcz43_1 : w38.cell? ⟨gb280, 1, none⟩ = some (.slice none 0 0) := (qC BK280.out 1).trans rfl; have hcz43_2 : w38.cell? ⟨gb280, 2, none⟩ = some (.int .i64 0) := (qC BK280.out 2).trans rfl; have hcz43_3 : w38.cell? ⟨gb280, 3, none⟩ = some (.int .i64 0) := (qC BK280.out 3).trans rfl; have hfz43_0 := qB BK280.out 0; have hfz43_1 := qB BK280.out 1; have hfz43_2 := qB BK280.out 2; have hfz43_3 := qB BK280.out 3; obtain ⟨Ao44, co44, eo44⟩ := Kd.zE HO276.out; subst eo44))
      (try simp only [Act.put, List.setIfInBounds_toArray, List.set_cons_zero, List.set_cons_succ])
      go_cut [51] (fun v51 wc => ∃ (kq : Nat) (x51_14 : Bool), v51 = .bool x51_14 ∧ Aside0 (laws_FnExactDiskWrite.j0 kq a1 a2 t260 t279 x51_14 l0_0 l0_1 a0_2 a0_3 t252 t255 t258 t259 t262 t265 t268 t269 t271 t274 t277 t278 = some true) ∧ Aside0 (kq ≤ k) ∧ Aside0 (Kd.R Kd.string 9 wc w.heap.size (fun k_ => some k_ ≠ ((.slice Ao32 t262.length co32) : Value).ownBlock ∧ some k_ ≠ ((.slice Ao39 t271.length co39) : Value).ownBlock) (.slice Ao25 t252.length co25) t252) ∧ Aside0 (Kd.R k70 70 wc w.heap.size (fun k_ => some k_ ≠ ((.slice Ao36 t265.length co36) : Value).ownBlock ∧ some k_ ≠ ((.slice Ao44 t274.length co44) : Value).ownBlock) (.slice Ao28 t255.length co28) t255) ∧ Aside0 (Kd.R Kd.string 9 wc w.heap.size (fun k_ => some k_ ≠ ((.slice Ao25 t252.length co25) : Value).ownBlock ∧ some k_ ≠ ((.slice Ao39 t271.length co39) : Value).ownBlock) (.slice Ao32 t262.length co32) t262) ∧ Aside0 (Kd.R k70 70 wc w.heap.size (fun k_ => some k_ ≠ ((.slice Ao28 t255.length co28) : Value).ownBlock ∧ some k_ ≠ ((.slice Ao44 t274.length co44) : Value).ownBlock) (.slice Ao36 t265.length co36) t265) ∧ Aside0 (Kd.R Kd.string 9 wc w.heap.size (fun k_ => some k_ ≠ ((.slice Ao25 t252.length co25) : Value).ownBlock ∧ some k_ ≠ ((.slice Ao32 t262.length co32) : Value).ownBlock) (.slice Ao39 t271.length co39) t271) ∧ Aside0 (Kd.R k70 70 wc w.heap.size (fun k_ => some k_ ≠ ((.slice Ao28 t255.length co28) : Value).ownBlock ∧ some k_ ≠ ((.slice Ao36 t265.length co36) : Value).ownBlock) (.slice Ao44 t274.length co44) t274) ∧ Aside0 (wc.heap[gb242]? = some (.cells #[(.slice A0_0 l0_0.length c0_0), (.slice A0_1 l0_1.length c0_1), .int .i64 a0_2, .int .i64 a0_3] 43 (0, 0))) ∧ Aside0 (wc.heap[gb261]? = some (.cells #[(.slice Ao25 t252.length co25), (.slice Ao28 t255.length co28), .int .i64 t258, .int .i64 t259] 26 (0, 0))) ∧ Aside0 (wc.heap[gb270]? = some (.cells #[(.slice Ao32 t262.length co32), (.slice Ao36 t265.length co36), .int .i64 t268, .int .i64 t269] 26 (0, 0))) ∧ Aside0 (wc.heap[gb280]? = some (.cells #[(.slice Ao39 t271.length co39), (.slice Ao44 t274.length co44), .int .i64 t277, .int .i64 t278] 26 (0, 0))) ∧ Aside0 (Below w.heap.size w wc))
      case first =>
        have H := HC15.out
        clear HC15
        replace H := Option.bind_eq_some_iff.mp H
        obtain ⟨t281, A450, H⟩ := H
        replace H : (if t281 = true then (laws_FnExactDiskWrite.j0 k a1 a2 t260 t279 (t279 != t260) l0_0 l0_1 a0_2 a0_3 t252 t255 t258 t259 t262 t265 t268 t269 t271 t274 t277 t278) else (laws_FnExactDiskWrite.j0 k a1 a2 t260 t279 true l0_0 l0_1 a0_2 a0_3 t252 t255 t258 t259 t262 t265 t268 t269 t271 t274 t277 t278)) = some true := H
        have A45 := Aside0.mk A450
        clear A450
        by_cases c46 : t281 = true
        · subst c46
          have H1 : (laws_FnExactDiskWrite.j0 k a1 a2 t260 t279 (t279 != t260) l0_0 l0_1 a0_2 a0_3 t252 t255 t258 t259 t262 t265 t268 t269 t271 t274 t277 t278) = some true := by rw [if_pos rfl] at H; exact H
          clear H
          have H := H1
          clear H1
          have H' := Aside0.mk H
          clear H
          have hnb47 := NB280_242.out
          have hnc47 := NB242_280.out
          have hnb48 := NB280_261.out
          have hnc48 := NB261_280.out
          have hnb49 := NB280_270.out
          have hnc49 := NB270_280.out
          have hcz50_0 : w38.cell? ⟨gb280, 0, none⟩ = some (.slice none 0 0) := (qC BK280.out 0).trans rfl
          have hcz50_1 : w38.cell? ⟨gb280, 1, none⟩ = some (.slice none 0 0) := (qC BK280.out 1).trans rfl
          have hcz50_2 : w38.cell? ⟨gb280, 2, none⟩ = some (.int .i64 0) := (qC BK280.out 2).trans rfl
          have hcz50_3 : w38.cell? ⟨gb280, 3, none⟩ = some (.int .i64 0) := (qC BK280.out 3).trans rfl
          have hfz50_0 := qB BK280.out 0
          have hfz50_1 := qB BK280.out 1
          have hfz50_2 := qB BK280.out 2
          have hfz50_3 := qB BK280.out 3
          have hnb51 := NB261_242.out
          have hnc51 := NB242_261.out
          have hnb52 := NB261_270.out
          have hnc52 := NB270_261.out
          have hcz53_0 : w38.cell? ⟨gb261, 0, none⟩ = some (.slice Ao25 t252.length co25) := (qC BK261.out 0).trans rfl
          have hcz53_1 : w38.cell? ⟨gb261, 1, none⟩ = some (.slice Ao28 t255.length co28) := (qC BK261.out 1).trans rfl
          have hcz53_2 : w38.cell? ⟨gb261, 2, none⟩ = some (.int .i64 t258) := (qC BK261.out 2).trans rfl
          have hcz53_3 : w38.cell? ⟨gb261, 3, none⟩ = some (.int .i64 t259) := (qC BK261.out 3).trans rfl
          have hfz53_0 := qB BK261.out 0
          have hfz53_1 := qB BK261.out 1
          have hfz53_2 := qB BK261.out 2
          have hfz53_3 := qB BK261.out 3
          go_wp2_with (first | ((with_reducible refine qT (f := 25) rfl ?_); refine zD (some 45) rfl rfl Try.func25 (by kernel_rfl) rfl #[.agg #[.slice Ao39 t271.length co39, .slice Ao44 t274.length co44, .int .i64 t277, .int .i64 t278], .agg #[.slice Ao25 t252.length co25, .slice Ao28 t255.length co28, .int .i64 t258, .int .i64 t259]] rfl (by (try simp only [List.map_toArray, List.map_cons, List.map_nil]); first | done | rfl | (simp only [List.length_drop, List.length_take]; rfl)) ?_; (with_reducible refine (laws_eqDisk.calls k _ _ t271 _ _ t274 t277 t278 _ _ t252 _ _ t255 t258 t259 true _ ?side1 ?side2 ?side3 ?side4 ?side5 ?side6 ?side7 ?side8 A45.out).mono ?_); (case side1 => refine (Kd.qS (e := 9) (base := w.heap.size) (ok := fun k_ => (((True ∧ some k_ ≠ (.slice Ao21 t244.length co21 : Value).ownBlock) ∧ some k_ ≠ (.slice Ao25 t252.length co25 : Value).ownBlock) ∧ some k_ ≠ (.slice Ao32 t262.length co32 : Value).ownBlock)) (n := t271.length) (c := co39) ?_).2.2; exact (by (with_reducible repeat (first | apply Kd.qK | apply Kd.qJ | apply Kd.qN)); exact (Kd.qP (Kd.R_far (p := ⟨gb280, 3, none⟩) (Kd.R_far (p := ⟨gb280, 2, none⟩) (Kd.R_far (p := ⟨gb280, 1, none⟩) (Kd.R_far (p := ⟨gb280, 0, none⟩) (Kd.qV HO273.out BK280.out (by decide)) (fun _ hk => hk.2) (.slice Ao39 t271.length co39)) (fun _ hk => hk.2) (.slice Ao44 t274.length co44)) (fun _ hk => hk.2) (.int .i64 t277)) (fun _ hk => hk.2) (.int .i64 t278)) (fun _ h_ => h_.1)))); (case side2 => exact (Kd.qS HO273.out).2.1); (case side3 => refine (Kd.qS (e := 70) (base := w.heap.size) (ok := fun k_ => (((True ∧ some k_ ≠ (.slice Ao22 t247.length co22 : Value).ownBlock) ∧ some k_ ≠ (.slice Ao28 t255.length co28 : Value).ownBlock) ∧ some k_ ≠ (.slice Ao36 t265.length co36 : Value).ownBlock)) (n := t274.length) (c := co44) ?_).2.2; exact (by (with_reducible repeat (first | apply Kd.qK | apply Kd.qJ | apply Kd.qN)); exact (Kd.qP (Kd.R_far (p := ⟨gb280, 3, none⟩) (Kd.R_far (p := ⟨gb280, 2, none⟩) (Kd.R_far (p := ⟨gb280, 1, none⟩) (Kd.R_far (p := ⟨gb280, 0, none⟩) (Kd.qV HO276.out BK280.out (by decide)) (fun _ hk => hk.2) (.slice Ao39 t271.length co39)) (fun _ hk => hk.2) (.slice Ao44 t274.length co44)) (fun _ hk => hk.2) (.int .i64 t277)) (fun _ hk => hk.2) (.int .i64 t278)) (fun _ h_ => h_.1)))); (case side4 => exact (Kd.qS HO276.out).2.1); (case side5 => refine (Kd.qS (e := 9) (base := w.heap.size) (ok := fun k_ => (((True ∧ some k_ ≠ (.slice Ao21 t244.length co21 : Value).ownBlock) ∧ some k_ ≠ (.slice Ao32 t262.length co32 : Value).ownBlock) ∧ some k_ ≠ (.slice Ao39 t271.length co39 : Value).ownBlock)) (n := t252.length) (c := co25) ?_).2.2; exact (by (with_reducible repeat (first | apply Kd.qK | apply Kd.qJ | apply Kd.qN)); exact (Kd.qP (Kd.R_far (p := ⟨gb280, 3, none⟩) (Kd.R_far (p := ⟨gb280, 2, none⟩) (Kd.R_far (p := ⟨gb280, 1, none⟩) (Kd.R_far (p := ⟨gb280, 0, none⟩) (Kd.qV HO254.out BK280.out (by decide)) (fun _ hk => hk.2) (.slice Ao39 t271.length co39)) (fun _ hk => hk.2) (.slice Ao44 t274.length co44)) (fun _ hk => hk.2) (.int .i64 t277)) (fun _ hk => hk.2) (.int .i64 t278)) (fun _ h_ => h_.1)))); (case side6 => exact (Kd.qS HO254.out).2.1); (case side7 => refine (Kd.qS (e := 70) (base := w.heap.size) (ok := fun k_ => (((True ∧ some k_ ≠ (.slice Ao22 t247.length co22 : Value).ownBlock) ∧ some k_ ≠ (.slice Ao36 t265.length co36 : Value).ownBlock) ∧ some k_ ≠ (.slice Ao44 t274.length co44 : Value).ownBlock)) (n := t255.length) (c := co28) ?_).2.2; exact (by (with_reducible repeat (first | apply Kd.qK | apply Kd.qJ | apply Kd.qN)); exact (Kd.qP (Kd.R_far (p := ⟨gb280, 3, none⟩) (Kd.R_far (p := ⟨gb280, 2, none⟩) (Kd.R_far (p := ⟨gb280, 1, none⟩) (Kd.R_far (p := ⟨gb280, 0, none⟩) (Kd.qV HO257.out BK280.out (by decide)) (fun _ hk => hk.2) (.slice Ao39 t271.length co39)) (fun _ hk => hk.2) (.slice Ao44 t274.length co44)) (fun _ hk => hk.2) (.int .i64 t277)) (fun _ hk => hk.2) (.int .i64 t278)) (fun _ h_ => h_.1)))); (case side8 => exact (Kd.qS HO257.out).2.1); rintro e w54 ⟨rfl, hb⟩; refine ⟨_, rfl, ?_⟩; have n0_ := Aside0.mk (Kd.qR (by (with_reducible repeat (first | apply Kd.qK | apply Kd.qJ | apply Kd.qN)); exact (Kd.qP (Kd.R_far (p := ⟨gb280, 3, none⟩) (Kd.R_far (p := ⟨gb280, 2, none⟩) (Kd.R_far (p := ⟨gb280, 1, none⟩) (Kd.R_far (p := ⟨gb280, 0, none⟩) (Kd.qV HO246.out BK280.out (by decide)) (fun _ hk => hk.2) (.slice Ao39 t271.length co39)) (fun _ hk => hk.2) (.slice Ao44 t274.length co44)) (fun _ hk => hk.2) (.int .i64 t277)) (fun _ hk => hk.2) (.int .i64 t278)) (fun _ h_ => h_.1))) hb); have n1_ := Aside0.mk (Kd.qR (by (with_reducible repeat (first | apply Kd.qK | apply Kd.qJ | apply Kd.qN)); exact (Kd.qP (Kd.R_far (p := ⟨gb280, 3, none⟩) (Kd.R_far (p := ⟨gb280, 2, none⟩) (Kd.R_far (p := ⟨gb280, 1, none⟩) (Kd.R_far (p := ⟨gb280, 0, none⟩) (Kd.qV HO249.out BK280.out (by decide)) (fun _ hk => hk.2) (.slice Ao39 t271.length co39)) (fun _ hk => hk.2) (.slice Ao44 t274.length co44)) (fun _ hk => hk.2) (.int .i64 t277)) (fun _ hk => hk.2) (.int .i64 t278)) (fun _ h_ => h_.1))) hb); have n2_ := Aside0.mk (Kd.qR (by (with_reducible repeat (first | apply Kd.qK | apply Kd.qJ | apply Kd.qN)); exact (Kd.qP (Kd.R_far (p := ⟨gb280, 3, none⟩) (Kd.R_far (p := ⟨gb280, 2, none⟩) (Kd.R_far (p := ⟨gb280, 1, none⟩) (Kd.R_far (p := ⟨gb280, 0, none⟩) (Kd.qV HO254.out BK280.out (by decide)) (fun _ hk => hk.2) (.slice Ao39 t271.length co39)) (fun _ hk => hk.2) (.slice Ao44 t274.length co44)) (fun _ hk => hk.2) (.int .i64 t277)) (fun _ hk => hk.2) (.int .i64 t278)) (fun _ h_ => h_.1))) hb); have n3_ := Aside0.mk (Kd.qR (by (with_reducible repeat (first | apply Kd.qK | apply Kd.qJ | apply Kd.qN)); exact (Kd.qP (Kd.R_far (p := ⟨gb280, 3, none⟩) (Kd.R_far (p := ⟨gb280, 2, none⟩) (Kd.R_far (p := ⟨gb280, 1, none⟩) (Kd.R_far (p := ⟨gb280, 0, none⟩) (Kd.qV HO257.out BK280.out (by decide)) (fun _ hk => hk.2) (.slice Ao39 t271.length co39)) (fun _ hk => hk.2) (.slice Ao44 t274.length co44)) (fun _ hk => hk.2) (.int .i64 t277)) (fun _ hk => hk.2) (.int .i64 t278)) (fun _ h_ => h_.1))) hb); have n4_ := Aside0.mk (Kd.qR (by (with_reducible repeat (first | apply Kd.qK | apply Kd.qJ | apply Kd.qN)); exact (Kd.qP (Kd.R_far (p := ⟨gb280, 3, none⟩) (Kd.R_far (p := ⟨gb280, 2, none⟩) (Kd.R_far (p := ⟨gb280, 1, none⟩) (Kd.R_far (p := ⟨gb280, 0, none⟩) (Kd.qV HO264.out BK280.out (by decide)) (fun _ hk => hk.2) (.slice Ao39 t271.length co39)) (fun _ hk => hk.2) (.slice Ao44 t274.length co44)) (fun _ hk => hk.2) (.int .i64 t277)) (fun _ hk => hk.2) (.int .i64 t278)) (fun _ h_ => h_.1))) hb); have n5_ := Aside0.mk (Kd.qR (by (with_reducible repeat (first | apply Kd.qK | apply Kd.qJ | apply Kd.qN)); exact (Kd.qP (Kd.R_far (p := ⟨gb280, 3, none⟩) (Kd.R_far (p := ⟨gb280, 2, none⟩) (Kd.R_far (p := ⟨gb280, 1, none⟩) (Kd.R_far (p := ⟨gb280, 0, none⟩) (Kd.qV HO267.out BK280.out (by decide)) (fun _ hk => hk.2) (.slice Ao39 t271.length co39)) (fun _ hk => hk.2) (.slice Ao44 t274.length co44)) (fun _ hk => hk.2) (.int .i64 t277)) (fun _ hk => hk.2) (.int .i64 t278)) (fun _ h_ => h_.1))) hb); have n6_ := Aside0.mk (Kd.qR (by (with_reducible repeat (first | apply Kd.qK | apply Kd.qJ | apply Kd.qN)); exact (Kd.qP (Kd.R_far (p := ⟨gb280, 3, none⟩) (Kd.R_far (p := ⟨gb280, 2, none⟩) (Kd.R_far (p := ⟨gb280, 1, none⟩) (Kd.R_far (p := ⟨gb280, 0, none⟩) (Kd.qV HO273.out BK280.out (by decide)) (fun _ hk => hk.2) (.slice Ao39 t271.length co39)) (fun _ hk => hk.2) (.slice Ao44 t274.length co44)) (fun _ hk => hk.2) (.int .i64 t277)) (fun _ hk => hk.2) (.int .i64 t278)) (fun _ h_ => h_.1))) hb); have n7_ := Aside0.mk (Kd.qR (by (with_reducible repeat (first | apply Kd.qK | apply Kd.qJ | apply Kd.qN)); exact (Kd.qP (Kd.R_far (p := ⟨gb280, 3, none⟩) (Kd.R_far (p := ⟨gb280, 2, none⟩) (Kd.R_far (p := ⟨gb280, 1, none⟩) (Kd.R_far (p := ⟨gb280, 0, none⟩) (Kd.qV HO276.out BK280.out (by decide)) (fun _ hk => hk.2) (.slice Ao39 t271.length co39)) (fun _ hk => hk.2) (.slice Ao44 t274.length co44)) (fun _ hk => hk.2) (.int .i64 t277)) (fun _ hk => hk.2) (.int .i64 t278)) (fun _ h_ => h_.1))) hb); have n8_ := Aside0.mk (qL (g := gb242) (o := .cells #[.slice A0_0 l0_0.length c0_0, .slice A0_1 l0_1.length c0_1, .int .i64 a0_2, .int .i64 a0_3] 43 (0, 0)) (by (with_reducible repeat (first | refine qE ?_ _ | refine qI ?_ | refine qD ?_ _)); refine qQ ?_ NB242_280.out _; (with_reducible repeat (first | refine qE ?_ _ | refine qI ?_ | refine qD ?_ _)); refine qQ ?_ NB242_280.out _; (with_reducible repeat (first | refine qE ?_ _ | refine qI ?_ | refine qD ?_ _)); refine qQ ?_ NB242_280.out _; (with_reducible repeat (first | refine qE ?_ _ | refine qI ?_ | refine qD ?_ _)); refine qQ ?_ NB242_280.out _; (with_reducible repeat (first | refine qE ?_ _ | refine qI ?_ | refine qD ?_ _)); exact BK242.out) hb); have n9_ := Aside0.mk (qL (g := gb261) (o := .cells #[.slice Ao25 t252.length co25, .slice Ao28 t255.length co28, .int .i64 t258, .int .i64 t259] 26 (0, 0)) (by (with_reducible repeat (first | refine qE ?_ _ | refine qI ?_ | refine qD ?_ _)); refine qQ ?_ NB261_280.out _; (with_reducible repeat (first | refine qE ?_ _ | refine qI ?_ | refine qD ?_ _)); refine qQ ?_ NB261_280.out _; (with_reducible repeat (first | refine qE ?_ _ | refine qI ?_ | refine qD ?_ _)); refine qQ ?_ NB261_280.out _; (with_reducible repeat (first | refine qE ?_ _ | refine qI ?_ | refine qD ?_ _)); refine qQ ?_ NB261_280.out _; (with_reducible repeat (first | refine qE ?_ _ | refine qI ?_ | refine qD ?_ _)); exact BK261.out) hb); have n10_ := Aside0.mk (qL (g := gb270) (o := .cells #[.slice Ao32 t262.length co32, .slice Ao36 t265.length co36, .int .i64 t268, .int .i64 t269] 26 (0, 0)) (by (with_reducible repeat (first | refine qE ?_ _ | refine qI ?_ | refine qD ?_ _)); refine qQ ?_ NB270_280.out _; (with_reducible repeat (first | refine qE ?_ _ | refine qI ?_ | refine qD ?_ _)); refine qQ ?_ NB270_280.out _; (with_reducible repeat (first | refine qE ?_ _ | refine qI ?_ | refine qD ?_ _)); refine qQ ?_ NB270_280.out _; (with_reducible repeat (first | refine qE ?_ _ | refine qI ?_ | refine qD ?_ _)); refine qQ ?_ NB270_280.out _; (with_reducible repeat (first | refine qE ?_ _ | refine qI ?_ | refine qD ?_ _)); exact BK270.out) hb); have n11_ := Aside0.mk (qL (g := gb280) (o := .cells #[.slice Ao39 t271.length co39, .slice Ao44 t274.length co44, .int .i64 t277, .int .i64 t278] 26 (0, 0)) (by (with_reducible repeat (first | refine qE ?_ _ | refine qI ?_ | refine qD ?_ _)); refine qU (cs := #[.slice Ao39 t271.length co39, .slice Ao44 t274.length co44, .int .i64 t277, .int .i64 0]) ?_ 3 _ rfl; (with_reducible repeat (first | refine qE ?_ _ | refine qI ?_ | refine qD ?_ _)); refine qU (cs := #[.slice Ao39 t271.length co39, .slice Ao44 t274.length co44, .int .i64 0, .int .i64 0]) ?_ 2 _ rfl; (with_reducible repeat (first | refine qE ?_ _ | refine qI ?_ | refine qD ?_ _)); refine qU (cs := #[.slice Ao39 t271.length co39, .slice none 0 0, .int .i64 0, .int .i64 0]) ?_ 1 _ rfl; (with_reducible repeat (first | refine qE ?_ _ | refine qI ?_ | refine qD ?_ _)); refine qU (cs := #[.slice none 0 0, .slice none 0 0, .int .i64 0, .int .i64 0]) ?_ 0 _ rfl; (with_reducible repeat (first | refine qE ?_ _ | refine qI ?_ | refine qD ?_ _)); exact BK280.out) hb); have n12_ := Aside0.mk (qO (by repeat (first | (with_reducible first | exact HB.out | apply qH | apply qA | apply qG | refine qF ?_ GE242.out | refine qF ?_ GE261.out | refine qF ?_ GE270.out | refine qF ?_ GE280.out) | exact HB.out)) hb); clear HO246; clear HO249; clear HO254; clear HO257; clear HO264; clear HO267; clear HO273; clear HO276; clear BK242; clear BK261; clear BK270; clear BK280; clear HB; have HO246 := n0_; have HO249 := n1_; have HO254 := n2_; have HO257 := n3_; have HO264 := n4_; have HO267 := n5_; have HO273 := n6_; have HO276 := n7_; have BK242 := n8_; have BK261 := n9_; have BK270 := n10_; have BK280 := n11_; have HB := n12_; clear n0_ n1_ n2_ n3_ n4_ n5_ n6_ n7_ n8_ n9_ n10_ n11_ n12_; (try clear hb); (try clear hb2); (try clear hk); (try clear hi)))
          go_meet
          case rel => exact ⟨_, ((t279 != t260)), (by first | rfl | (simp; done) | (simp [*]; done)), H', ⟨by first | omega | exact Nat.le_refl _⟩, ⟨by (with_reducible repeat (first | apply Kd.qK | apply Kd.qJ | apply Kd.qN)); exact Kd.qP HO254.out (fun _ hk => ⟨hk.1.2, hk.2⟩)⟩, ⟨by (with_reducible repeat (first | apply Kd.qK | apply Kd.qJ | apply Kd.qN)); exact Kd.qP HO257.out (fun _ hk => ⟨hk.1.2, hk.2⟩)⟩, ⟨by (with_reducible repeat (first | apply Kd.qK | apply Kd.qJ | apply Kd.qN)); exact Kd.qP HO264.out (fun _ hk => ⟨hk.1.2, hk.2⟩)⟩, ⟨by (with_reducible repeat (first | apply Kd.qK | apply Kd.qJ | apply Kd.qN)); exact Kd.qP HO267.out (fun _ hk => ⟨hk.1.2, hk.2⟩)⟩, ⟨by (with_reducible repeat (first | apply Kd.qK | apply Kd.qJ | apply Kd.qN)); exact Kd.qP HO273.out (fun _ hk => ⟨hk.1.2, hk.2⟩)⟩, ⟨by (with_reducible repeat (first | apply Kd.qK | apply Kd.qJ | apply Kd.qN)); exact Kd.qP HO276.out (fun _ hk => ⟨hk.1.2, hk.2⟩)⟩, ⟨by (with_reducible repeat (first | refine qE ?_ _ | refine qI ?_ | refine qD ?_ _)); exact BK242.out⟩, ⟨by (with_reducible repeat (first | refine qE ?_ _ | refine qI ?_ | refine qD ?_ _)); exact BK261.out⟩, ⟨by (with_reducible repeat (first | refine qE ?_ _ | refine qI ?_ | refine qD ?_ _)); exact BK270.out⟩, ⟨by (with_reducible repeat (first | refine qE ?_ _ | refine qI ?_ | refine qD ?_ _)); exact BK280.out⟩, ⟨by repeat (first | (with_reducible first | exact HB.out | apply qH | apply qA | apply qG | refine qF ?_ GE242.out | refine qF ?_ GE261.out | refine qF ?_ GE270.out | refine qF ?_ GE280.out) | exact HB.out)⟩⟩
        · replace c46 := Bool.eq_false_iff.mpr c46
          subst c46
          have H1 : (laws_FnExactDiskWrite.j0 k a1 a2 t260 t279 true l0_0 l0_1 a0_2 a0_3 t252 t255 t258 t259 t262 t265 t268 t269 t271 t274 t277 t278) = some true := by rw [if_neg (show ¬ (false = true) by decide)] at H; exact H
          clear H
          have H := H1
          clear H1
          have H' := Aside0.mk H
          clear H
          have hnb55 := NB280_242.out
          have hnc55 := NB242_280.out
          have hnb56 := NB280_261.out
          have hnc56 := NB261_280.out
          have hnb57 := NB280_270.out
          have hnc57 := NB270_280.out
          have hcz58_0 : w38.cell? ⟨gb280, 0, none⟩ = some (.slice none 0 0) := (qC BK280.out 0).trans rfl
          have hcz58_1 : w38.cell? ⟨gb280, 1, none⟩ = some (.slice none 0 0) := (qC BK280.out 1).trans rfl
          have hcz58_2 : w38.cell? ⟨gb280, 2, none⟩ = some (.int .i64 0) := (qC BK280.out 2).trans rfl
          have hcz58_3 : w38.cell? ⟨gb280, 3, none⟩ = some (.int .i64 0) := (qC BK280.out 3).trans rfl
          have hfz58_0 := qB BK280.out 0
          have hfz58_1 := qB BK280.out 1
          have hfz58_2 := qB BK280.out 2
          have hfz58_3 := qB BK280.out 3
          have hnb59 := NB261_242.out
          have hnc59 := NB242_261.out
          have hnb60 := NB261_270.out
          have hnc60 := NB270_261.out
          have hcz61_0 : w38.cell? ⟨gb261, 0, none⟩ = some (.slice Ao25 t252.length co25) := (qC BK261.out 0).trans rfl
          have hcz61_1 : w38.cell? ⟨gb261, 1, none⟩ = some (.slice Ao28 t255.length co28) := (qC BK261.out 1).trans rfl
          have hcz61_2 : w38.cell? ⟨gb261, 2, none⟩ = some (.int .i64 t258) := (qC BK261.out 2).trans rfl
          have hcz61_3 : w38.cell? ⟨gb261, 3, none⟩ = some (.int .i64 t259) := (qC BK261.out 3).trans rfl
          have hfz61_0 := qB BK261.out 0
          have hfz61_1 := qB BK261.out 1
          have hfz61_2 := qB BK261.out 2
          have hfz61_3 := qB BK261.out 3
          go_wp2_with (first | ((with_reducible refine qT (f := 25) rfl ?_); refine zD (some 45) rfl rfl Try.func25 (by kernel_rfl) rfl #[.agg #[.slice Ao39 t271.length co39, .slice Ao44 t274.length co44, .int .i64 t277, .int .i64 t278], .agg #[.slice Ao25 t252.length co25, .slice Ao28 t255.length co28, .int .i64 t258, .int .i64 t259]] rfl (by (try simp only [List.map_toArray, List.map_cons, List.map_nil]); first | done | rfl | (simp only [List.length_drop, List.length_take]; rfl)) ?_; (with_reducible refine (laws_eqDisk.calls k _ _ t271 _ _ t274 t277 t278 _ _ t252 _ _ t255 t258 t259 false _ ?side1 ?side2 ?side3 ?side4 ?side5 ?side6 ?side7 ?side8 A45.out).mono ?_); (case side1 => refine (Kd.qS (e := 9) (base := w.heap.size) (ok := fun k_ => (((True ∧ some k_ ≠ (.slice Ao21 t244.length co21 : Value).ownBlock) ∧ some k_ ≠ (.slice Ao25 t252.length co25 : Value).ownBlock) ∧ some k_ ≠ (.slice Ao32 t262.length co32 : Value).ownBlock)) (n := t271.length) (c := co39) ?_).2.2; exact (by (with_reducible repeat (first | apply Kd.qK | apply Kd.qJ | apply Kd.qN)); exact (Kd.qP (Kd.R_far (p := ⟨gb280, 3, none⟩) (Kd.R_far (p := ⟨gb280, 2, none⟩) (Kd.R_far (p := ⟨gb280, 1, none⟩) (Kd.R_far (p := ⟨gb280, 0, none⟩) (Kd.qV HO273.out BK280.out (by decide)) (fun _ hk => hk.2) (.slice Ao39 t271.length co39)) (fun _ hk => hk.2) (.slice Ao44 t274.length co44)) (fun _ hk => hk.2) (.int .i64 t277)) (fun _ hk => hk.2) (.int .i64 t278)) (fun _ h_ => h_.1)))); (case side2 => exact (Kd.qS HO273.out).2.1); (case side3 => refine (Kd.qS (e := 70) (base := w.heap.size) (ok := fun k_ => (((True ∧ some k_ ≠ (.slice Ao22 t247.length co22 : Value).ownBlock) ∧ some k_ ≠ (.slice Ao28 t255.length co28 : Value).ownBlock) ∧ some k_ ≠ (.slice Ao36 t265.length co36 : Value).ownBlock)) (n := t274.length) (c := co44) ?_).2.2; exact (by (with_reducible repeat (first | apply Kd.qK | apply Kd.qJ | apply Kd.qN)); exact (Kd.qP (Kd.R_far (p := ⟨gb280, 3, none⟩) (Kd.R_far (p := ⟨gb280, 2, none⟩) (Kd.R_far (p := ⟨gb280, 1, none⟩) (Kd.R_far (p := ⟨gb280, 0, none⟩) (Kd.qV HO276.out BK280.out (by decide)) (fun _ hk => hk.2) (.slice Ao39 t271.length co39)) (fun _ hk => hk.2) (.slice Ao44 t274.length co44)) (fun _ hk => hk.2) (.int .i64 t277)) (fun _ hk => hk.2) (.int .i64 t278)) (fun _ h_ => h_.1)))); (case side4 => exact (Kd.qS HO276.out).2.1); (case side5 => refine (Kd.qS (e := 9) (base := w.heap.size) (ok := fun k_ => (((True ∧ some k_ ≠ (.slice Ao21 t244.length co21 : Value).ownBlock) ∧ some k_ ≠ (.slice Ao32 t262.length co32 : Value).ownBlock) ∧ some k_ ≠ (.slice Ao39 t271.length co39 : Value).ownBlock)) (n := t252.length) (c := co25) ?_).2.2; exact (by (with_reducible repeat (first | apply Kd.qK | apply Kd.qJ | apply Kd.qN)); exact (Kd.qP (Kd.R_far (p := ⟨gb280, 3, none⟩) (Kd.R_far (p := ⟨gb280, 2, none⟩) (Kd.R_far (p := ⟨gb280, 1, none⟩) (Kd.R_far (p := ⟨gb280, 0, none⟩) (Kd.qV HO254.out BK280.out (by decide)) (fun _ hk => hk.2) (.slice Ao39 t271.length co39)) (fun _ hk => hk.2) (.slice Ao44 t274.length co44)) (fun _ hk => hk.2) (.int .i64 t277)) (fun _ hk => hk.2) (.int .i64 t278)) (fun _ h_ => h_.1)))); (case side6 => exact (Kd.qS HO254.out).2.1); (case side7 => refine (Kd.qS (e := 70) (base := w.heap.size) (ok := fun k_ => (((True ∧ some k_ ≠ (.slice Ao22 t247.length co22 : Value).ownBlock) ∧ some k_ ≠ (.slice Ao36 t265.length co36 : Value).ownBlock) ∧ some k_ ≠ (.slice Ao44 t274.length co44 : Value).ownBlock)) (n := t255.length) (c := co28) ?_).2.2; exact (by (with_reducible repeat (first | apply Kd.qK | apply Kd.qJ | apply Kd.qN)); exact (Kd.qP (Kd.R_far (p := ⟨gb280, 3, none⟩) (Kd.R_far (p := ⟨gb280, 2, none⟩) (Kd.R_far (p := ⟨gb280, 1, none⟩) (Kd.R_far (p := ⟨gb280, 0, none⟩) (Kd.qV HO257.out BK280.out (by decide)) (fun _ hk => hk.2) (.slice Ao39 t271.length co39)) (fun _ hk => hk.2) (.slice Ao44 t274.length co44)) (fun _ hk => hk.2) (.int .i64 t277)) (fun _ hk => hk.2) (.int .i64 t278)) (fun _ h_ => h_.1)))); (case side8 => exact (Kd.qS HO257.out).2.1); rintro e w62 ⟨rfl, hb⟩; refine ⟨_, rfl, ?_⟩; have n0_ := Aside0.mk (Kd.qR (by (with_reducible repeat (first | apply Kd.qK | apply Kd.qJ | apply Kd.qN)); exact (Kd.qP (Kd.R_far (p := ⟨gb280, 3, none⟩) (Kd.R_far (p := ⟨gb280, 2, none⟩) (Kd.R_far (p := ⟨gb280, 1, none⟩) (Kd.R_far (p := ⟨gb280, 0, none⟩) (Kd.qV HO246.out BK280.out (by decide)) (fun _ hk => hk.2) (.slice Ao39 t271.length co39)) (fun _ hk => hk.2) (.slice Ao44 t274.length co44)) (fun _ hk => hk.2) (.int .i64 t277)) (fun _ hk => hk.2) (.int .i64 t278)) (fun _ h_ => h_.1))) hb); have n1_ := Aside0.mk (Kd.qR (by (with_reducible repeat (first | apply Kd.qK | apply Kd.qJ | apply Kd.qN)); exact (Kd.qP (Kd.R_far (p := ⟨gb280, 3, none⟩) (Kd.R_far (p := ⟨gb280, 2, none⟩) (Kd.R_far (p := ⟨gb280, 1, none⟩) (Kd.R_far (p := ⟨gb280, 0, none⟩) (Kd.qV HO249.out BK280.out (by decide)) (fun _ hk => hk.2) (.slice Ao39 t271.length co39)) (fun _ hk => hk.2) (.slice Ao44 t274.length co44)) (fun _ hk => hk.2) (.int .i64 t277)) (fun _ hk => hk.2) (.int .i64 t278)) (fun _ h_ => h_.1))) hb); have n2_ := Aside0.mk (Kd.qR (by (with_reducible repeat (first | apply Kd.qK | apply Kd.qJ | apply Kd.qN)); exact (Kd.qP (Kd.R_far (p := ⟨gb280, 3, none⟩) (Kd.R_far (p := ⟨gb280, 2, none⟩) (Kd.R_far (p := ⟨gb280, 1, none⟩) (Kd.R_far (p := ⟨gb280, 0, none⟩) (Kd.qV HO254.out BK280.out (by decide)) (fun _ hk => hk.2) (.slice Ao39 t271.length co39)) (fun _ hk => hk.2) (.slice Ao44 t274.length co44)) (fun _ hk => hk.2) (.int .i64 t277)) (fun _ hk => hk.2) (.int .i64 t278)) (fun _ h_ => h_.1))) hb); have n3_ := Aside0.mk (Kd.qR (by (with_reducible repeat (first | apply Kd.qK | apply Kd.qJ | apply Kd.qN)); exact (Kd.qP (Kd.R_far (p := ⟨gb280, 3, none⟩) (Kd.R_far (p := ⟨gb280, 2, none⟩) (Kd.R_far (p := ⟨gb280, 1, none⟩) (Kd.R_far (p := ⟨gb280, 0, none⟩) (Kd.qV HO257.out BK280.out (by decide)) (fun _ hk => hk.2) (.slice Ao39 t271.length co39)) (fun _ hk => hk.2) (.slice Ao44 t274.length co44)) (fun _ hk => hk.2) (.int .i64 t277)) (fun _ hk => hk.2) (.int .i64 t278)) (fun _ h_ => h_.1))) hb); have n4_ := Aside0.mk (Kd.qR (by (with_reducible repeat (first | apply Kd.qK | apply Kd.qJ | apply Kd.qN)); exact (Kd.qP (Kd.R_far (p := ⟨gb280, 3, none⟩) (Kd.R_far (p := ⟨gb280, 2, none⟩) (Kd.R_far (p := ⟨gb280, 1, none⟩) (Kd.R_far (p := ⟨gb280, 0, none⟩) (Kd.qV HO264.out BK280.out (by decide)) (fun _ hk => hk.2) (.slice Ao39 t271.length co39)) (fun _ hk => hk.2) (.slice Ao44 t274.length co44)) (fun _ hk => hk.2) (.int .i64 t277)) (fun _ hk => hk.2) (.int .i64 t278)) (fun _ h_ => h_.1))) hb); have n5_ := Aside0.mk (Kd.qR (by (with_reducible repeat (first | apply Kd.qK | apply Kd.qJ | apply Kd.qN)); exact (Kd.qP (Kd.R_far (p := ⟨gb280, 3, none⟩) (Kd.R_far (p := ⟨gb280, 2, none⟩) (Kd.R_far (p := ⟨gb280, 1, none⟩) (Kd.R_far (p := ⟨gb280, 0, none⟩) (Kd.qV HO267.out BK280.out (by decide)) (fun _ hk => hk.2) (.slice Ao39 t271.length co39)) (fun _ hk => hk.2) (.slice Ao44 t274.length co44)) (fun _ hk => hk.2) (.int .i64 t277)) (fun _ hk => hk.2) (.int .i64 t278)) (fun _ h_ => h_.1))) hb); have n6_ := Aside0.mk (Kd.qR (by (with_reducible repeat (first | apply Kd.qK | apply Kd.qJ | apply Kd.qN)); exact (Kd.qP (Kd.R_far (p := ⟨gb280, 3, none⟩) (Kd.R_far (p := ⟨gb280, 2, none⟩) (Kd.R_far (p := ⟨gb280, 1, none⟩) (Kd.R_far (p := ⟨gb280, 0, none⟩) (Kd.qV HO273.out BK280.out (by decide)) (fun _ hk => hk.2) (.slice Ao39 t271.length co39)) (fun _ hk => hk.2) (.slice Ao44 t274.length co44)) (fun _ hk => hk.2) (.int .i64 t277)) (fun _ hk => hk.2) (.int .i64 t278)) (fun _ h_ => h_.1))) hb); have n7_ := Aside0.mk (Kd.qR (by (with_reducible repeat (first | apply Kd.qK | apply Kd.qJ | apply Kd.qN)); exact (Kd.qP (Kd.R_far (p := ⟨gb280, 3, none⟩) (Kd.R_far (p := ⟨gb280, 2, none⟩) (Kd.R_far (p := ⟨gb280, 1, none⟩) (Kd.R_far (p := ⟨gb280, 0, none⟩) (Kd.qV HO276.out BK280.out (by decide)) (fun _ hk => hk.2) (.slice Ao39 t271.length co39)) (fun _ hk => hk.2) (.slice Ao44 t274.length co44)) (fun _ hk => hk.2) (.int .i64 t277)) (fun _ hk => hk.2) (.int .i64 t278)) (fun _ h_ => h_.1))) hb); have n8_ := Aside0.mk (qL (g := gb242) (o := .cells #[.slice A0_0 l0_0.length c0_0, .slice A0_1 l0_1.length c0_1, .int .i64 a0_2, .int .i64 a0_3] 43 (0, 0)) (by (with_reducible repeat (first | refine qE ?_ _ | refine qI ?_ | refine qD ?_ _)); refine qQ ?_ NB242_280.out _; (with_reducible repeat (first | refine qE ?_ _ | refine qI ?_ | refine qD ?_ _)); refine qQ ?_ NB242_280.out _; (with_reducible repeat (first | refine qE ?_ _ | refine qI ?_ | refine qD ?_ _)); refine qQ ?_ NB242_280.out _; (with_reducible repeat (first | refine qE ?_ _ | refine qI ?_ | refine qD ?_ _)); refine qQ ?_ NB242_280.out _; (with_reducible repeat (first | refine qE ?_ _ | refine qI ?_ | refine qD ?_ _)); exact BK242.out) hb); have n9_ := Aside0.mk (qL (g := gb261) (o := .cells #[.slice Ao25 t252.length co25, .slice Ao28 t255.length co28, .int .i64 t258, .int .i64 t259] 26 (0, 0)) (by (with_reducible repeat (first | refine qE ?_ _ | refine qI ?_ | refine qD ?_ _)); refine qQ ?_ NB261_280.out _; (with_reducible repeat (first | refine qE ?_ _ | refine qI ?_ | refine qD ?_ _)); refine qQ ?_ NB261_280.out _; (with_reducible repeat (first | refine qE ?_ _ | refine qI ?_ | refine qD ?_ _)); refine qQ ?_ NB261_280.out _; (with_reducible repeat (first | refine qE ?_ _ | refine qI ?_ | refine qD ?_ _)); refine qQ ?_ NB261_280.out _; (with_reducible repeat (first | refine qE ?_ _ | refine qI ?_ | refine qD ?_ _)); exact BK261.out) hb); have n10_ := Aside0.mk (qL (g := gb270) (o := .cells #[.slice Ao32 t262.length co32, .slice Ao36 t265.length co36, .int .i64 t268, .int .i64 t269] 26 (0, 0)) (by (with_reducible repeat (first | refine qE ?_ _ | refine qI ?_ | refine qD ?_ _)); refine qQ ?_ NB270_280.out _; (with_reducible repeat (first | refine qE ?_ _ | refine qI ?_ | refine qD ?_ _)); refine qQ ?_ NB270_280.out _; (with_reducible repeat (first | refine qE ?_ _ | refine qI ?_ | refine qD ?_ _)); refine qQ ?_ NB270_280.out _; (with_reducible repeat (first | refine qE ?_ _ | refine qI ?_ | refine qD ?_ _)); refine qQ ?_ NB270_280.out _; (with_reducible repeat (first | refine qE ?_ _ | refine qI ?_ | refine qD ?_ _)); exact BK270.out) hb); have n11_ := Aside0.mk (qL (g := gb280) (o := .cells #[.slice Ao39 t271.length co39, .slice Ao44 t274.length co44, .int .i64 t277, .int .i64 t278] 26 (0, 0)) (by (with_reducible repeat (first | refine qE ?_ _ | refine qI ?_ | refine qD ?_ _)); refine qU (cs := #[.slice Ao39 t271.length co39, .slice Ao44 t274.length co44, .int .i64 t277, .int .i64 0]) ?_ 3 _ rfl; (with_reducible repeat (first | refine qE ?_ _ | refine qI ?_ | refine qD ?_ _)); refine qU (cs := #[.slice Ao39 t271.length co39, .slice Ao44 t274.length co44, .int .i64 0, .int .i64 0]) ?_ 2 _ rfl; (with_reducible repeat (first | refine qE ?_ _ | refine qI ?_ | refine qD ?_ _)); refine qU (cs := #[.slice Ao39 t271.length co39, .slice none 0 0, .int .i64 0, .int .i64 0]) ?_ 1 _ rfl; (with_reducible repeat (first | refine qE ?_ _ | refine qI ?_ | refine qD ?_ _)); refine qU (cs := #[.slice none 0 0, .slice none 0 0, .int .i64 0, .int .i64 0]) ?_ 0 _ rfl; (with_reducible repeat (first | refine qE ?_ _ | refine qI ?_ | refine qD ?_ _)); exact BK280.out) hb); have n12_ := Aside0.mk (qO (by repeat (first | (with_reducible first | exact HB.out | apply qH | apply qA | apply qG | refine qF ?_ GE242.out | refine qF ?_ GE261.out | refine qF ?_ GE270.out | refine qF ?_ GE280.out) | exact HB.out)) hb); clear HO246; clear HO249; clear HO254; clear HO257; clear HO264; clear HO267; clear HO273; clear HO276; clear BK242; clear BK261; clear BK270; clear BK280; clear HB; have HO246 := n0_; have HO249 := n1_; have HO254 := n2_; have HO257 := n3_; have HO264 := n4_; have HO267 := n5_; have HO273 := n6_; have HO276 := n7_; have BK242 := n8_; have BK261 := n9_; have BK270 := n10_; have BK280 := n11_; have HB := n12_; clear n0_ n1_ n2_ n3_ n4_ n5_ n6_ n7_ n8_ n9_ n10_ n11_ n12_; (try clear hb); (try clear hb2); (try clear hk); (try clear hi)))
          go_meet
          case rel => exact ⟨_, (true), (by first | rfl | (simp; done) | (simp [*]; done)), H', ⟨by first | omega | exact Nat.le_refl _⟩, ⟨by (with_reducible repeat (first | apply Kd.qK | apply Kd.qJ | apply Kd.qN)); exact Kd.qP HO254.out (fun _ hk => ⟨hk.1.2, hk.2⟩)⟩, ⟨by (with_reducible repeat (first | apply Kd.qK | apply Kd.qJ | apply Kd.qN)); exact Kd.qP HO257.out (fun _ hk => ⟨hk.1.2, hk.2⟩)⟩, ⟨by (with_reducible repeat (first | apply Kd.qK | apply Kd.qJ | apply Kd.qN)); exact Kd.qP HO264.out (fun _ hk => ⟨hk.1.2, hk.2⟩)⟩, ⟨by (with_reducible repeat (first | apply Kd.qK | apply Kd.qJ | apply Kd.qN)); exact Kd.qP HO267.out (fun _ hk => ⟨hk.1.2, hk.2⟩)⟩, ⟨by (with_reducible repeat (first | apply Kd.qK | apply Kd.qJ | apply Kd.qN)); exact Kd.qP HO273.out (fun _ hk => ⟨hk.1.2, hk.2⟩)⟩, ⟨by (with_reducible repeat (first | apply Kd.qK | apply Kd.qJ | apply Kd.qN)); exact Kd.qP HO276.out (fun _ hk => ⟨hk.1.2, hk.2⟩)⟩, ⟨by (with_reducible repeat (first | refine qE ?_ _ | refine qI ?_ | refine qD ?_ _)); exact BK242.out⟩, ⟨by (with_reducible repeat (first | refine qE ?_ _ | refine qI ?_ | refine qD ?_ _)); exact BK261.out⟩, ⟨by (with_reducible repeat (first | refine qE ?_ _ | refine qI ?_ | refine qD ?_ _)); exact BK270.out⟩, ⟨by (with_reducible repeat (first | refine qE ?_ _ | refine qI ?_ | refine qD ?_ _)); exact BK280.out⟩, ⟨by repeat (first | (with_reducible first | exact HB.out | apply qH | apply qA | apply qG | refine qF ?_ GE242.out | refine qF ?_ GE261.out | refine qF ?_ GE270.out | refine qF ?_ GE280.out) | exact HB.out)⟩⟩
      case rest =>
        clear HC15
        try clear c1
        try clear c2
        try clear p2
        try clear c3
        try clear c4
        try clear c4b0
        try clear c4b1
        try clear c5
        try clear c6
        try clear c7
        try clear c7b0
        try clear c10
        try clear c16
        try clear c18
        try clear c23
        try clear c24
        try clear c25
        try clear c26
        try clear c33
        try clear c34
        try clear c40
        try clear c41
        try clear c42
        try clear c46
        try clear c47
        try clear c48
        try clear c49
        try clear c51
        try clear c52
        try clear c55
        try clear c56
        try clear c57
        try clear c59
        try clear c60
        try clear hcz17_0
        try clear hcz17_1
        try clear hcz17_2
        try clear hcz17_3
        try clear hcz19_0
        try clear hcz19_1
        try clear hcz19_2
        try clear hcz19_3
        try clear hcz27_0
        try clear hcz27_1
        try clear hcz27_2
        try clear hcz27_3
        try clear hcz29_0
        try clear hcz29_1
        try clear hcz29_2
        try clear hcz29_3
        try clear hcz35_0
        try clear hcz35_1
        try clear hcz35_2
        try clear hcz35_3
        try clear hcz43_0
        try clear hcz43_1
        try clear hcz43_2
        try clear hcz43_3
        try clear hcz50_0
        try clear hcz50_1
        try clear hcz50_2
        try clear hcz50_3
        try clear hcz53_0
        try clear hcz53_1
        try clear hcz53_2
        try clear hcz53_3
        try clear hcz58_0
        try clear hcz58_1
        try clear hcz58_2
        try clear hcz58_3
        try clear hcz61_0
        try clear hcz61_1
        try clear hcz61_2
        try clear hcz61_3
        try clear hcz9_0
        try clear hcz9_1
        try clear hcz9_2
        try clear hcz9_3
        try clear hfz17_0
        try clear hfz17_1
        try clear hfz17_2
        try clear hfz17_3
        try clear hfz19_0
        try clear hfz19_1
        try clear hfz19_2
        try clear hfz19_3
        try clear hfz27_0
        try clear hfz27_1
        try clear hfz27_2
        try clear hfz27_3
        try clear hfz29_0
        try clear hfz29_1
        try clear hfz29_2
        try clear hfz29_3
        try clear hfz35_0
        try clear hfz35_1
        try clear hfz35_2
        try clear hfz35_3
        try clear hfz43_0
        try clear hfz43_1
        try clear hfz43_2
        try clear hfz43_3
        try clear hfz50_0
        try clear hfz50_1
        try clear hfz50_2
        try clear hfz50_3
        try clear hfz53_0
        try clear hfz53_1
        try clear hfz53_2
        try clear hfz53_3
        try clear hfz58_0
        try clear hfz58_1
        try clear hfz58_2
        try clear hfz58_3
        try clear hfz61_0
        try clear hfz61_1
        try clear hfz61_2
        try clear hfz61_3
        try clear hfz9_0
        try clear hfz9_1
        try clear hfz9_2
        try clear hfz9_3
        obtain ⟨kq, x51_14, rfl, HA, HJ14, HO_262000, HO_262001, HO_271000, HO_271001, HO_281000, HO_281001, BK242, BK261, BK270, BK280, HB⟩ := hcut
        cases kq with
        | zero => exact absurd HA.out (by simp [laws_FnExactDiskWrite.j0])
        | succ kj14 =>
          have H := HA.out
          clear HA
          simp only [laws_FnExactDiskWrite.j0] at H
          by_cases c63 : x51_14 = true
          · subst c63
            have H1 : (some false) = some true := by rw [if_pos rfl] at H; exact H
            clear H
            have H := H1
            clear H1
            exact absurd H (by simp)
          · replace c63 := Bool.eq_false_iff.mpr c63
            subst c63
            have H1 : ((laws_toDisk.f kj14 l0_0 l0_1 a0_2 a0_3).bind fun bt282 => ((laws_eqDisk.f kj14 t262 t265 t268 t269 bt282.1 bt282.2.1 bt282.2.2.1 bt282.2.2.2).bind fun t290 => (if t290 = true then ((laws_markDisk.f kj14 t262 t265 t268 t269 1).bind fun bt291 => (if bt291.1 < 0 then (laws_FnExactDiskWrite.j1 kj14 a1 a2 t260 true l0_0 l0_1 a0_2 a0_3 t252 t255 t258 t259 t271 t274 t277 t278) else ((laws_eqDisk.f kj14 t271 t274 t277 t278 t252 t255 t258 t259).bind fun t294 => (if t294 = true then (laws_FnExactDiskWrite.j1 kj14 a1 a2 t260 (t279 != t260) l0_0 l0_1 a0_2 a0_3 t252 t255 t258 t259 t271 t274 t277 t278) else (laws_FnExactDiskWrite.j1 kj14 a1 a2 t260 true l0_0 l0_1 a0_2 a0_3 t252 t255 t258 t259 t271 t274 t277 t278))))) else (some false)))) = some true := by rw [if_neg (show ¬ (false = true) by decide)] at H; exact H
            clear H
            have H := H1
            clear H1
            replace H := Option.bind_eq_some_iff.mp H
            obtain ⟨⟨t282, t285, t288, t289⟩, A640, H⟩ := H
            replace H : ((laws_eqDisk.f kj14 t262 t265 t268 t269 t282 t285 t288 t289).bind fun t290 => (if t290 = true then ((laws_markDisk.f kj14 t262 t265 t268 t269 1).bind fun bt291 => (if bt291.1 < 0 then (laws_FnExactDiskWrite.j1 kj14 a1 a2 t260 true l0_0 l0_1 a0_2 a0_3 t252 t255 t258 t259 t271 t274 t277 t278) else ((laws_eqDisk.f kj14 t271 t274 t277 t278 t252 t255 t258 t259).bind fun t294 => (if t294 = true then (laws_FnExactDiskWrite.j1 kj14 a1 a2 t260 (t279 != t260) l0_0 l0_1 a0_2 a0_3 t252 t255 t258 t259 t271 t274 t277 t278) else (laws_FnExactDiskWrite.j1 kj14 a1 a2 t260 true l0_0 l0_1 a0_2 a0_3 t252 t255 t258 t259 t271 t274 t277 t278))))) else (some false))) = some true := H
            have A64 := Aside0.mk A640
            clear A640
            replace H := Option.bind_eq_some_iff.mp H
            obtain ⟨t290, A650, H⟩ := H
            replace H : (if t290 = true then ((laws_markDisk.f kj14 t262 t265 t268 t269 1).bind fun bt291 => (if bt291.1 < 0 then (laws_FnExactDiskWrite.j1 kj14 a1 a2 t260 true l0_0 l0_1 a0_2 a0_3 t252 t255 t258 t259 t271 t274 t277 t278) else ((laws_eqDisk.f kj14 t271 t274 t277 t278 t252 t255 t258 t259).bind fun t294 => (if t294 = true then (laws_FnExactDiskWrite.j1 kj14 a1 a2 t260 (t279 != t260) l0_0 l0_1 a0_2 a0_3 t252 t255 t258 t259 t271 t274 t277 t278) else (laws_FnExactDiskWrite.j1 kj14 a1 a2 t260 true l0_0 l0_1 a0_2 a0_3 t252 t255 t258 t259 t271 t274 t277 t278))))) else (some false)) = some true := H
            have A65 := Aside0.mk A650
            clear A650
            by_cases c66 : t290 = true
            · subst c66
              have H1 : ((laws_markDisk.f kj14 t262 t265 t268 t269 1).bind fun bt291 => (if bt291.1 < 0 then (laws_FnExactDiskWrite.j1 kj14 a1 a2 t260 true l0_0 l0_1 a0_2 a0_3 t252 t255 t258 t259 t271 t274 t277 t278) else ((laws_eqDisk.f kj14 t271 t274 t277 t278 t252 t255 t258 t259).bind fun t294 => (if t294 = true then (laws_FnExactDiskWrite.j1 kj14 a1 a2 t260 (t279 != t260) l0_0 l0_1 a0_2 a0_3 t252 t255 t258 t259 t271 t274 t277 t278) else (laws_FnExactDiskWrite.j1 kj14 a1 a2 t260 true l0_0 l0_1 a0_2 a0_3 t252 t255 t258 t259 t271 t274 t277 t278))))) = some true := by rw [if_pos rfl] at H; exact H
              clear H
              have H := H1
              clear H1
              replace H := Option.bind_eq_some_iff.mp H
              obtain ⟨⟨t291, t292, t293⟩, A670, H⟩ := H
              replace H : (if t291 < 0 then (laws_FnExactDiskWrite.j1 kj14 a1 a2 t260 true l0_0 l0_1 a0_2 a0_3 t252 t255 t258 t259 t271 t274 t277 t278) else ((laws_eqDisk.f kj14 t271 t274 t277 t278 t252 t255 t258 t259).bind fun t294 => (if t294 = true then (laws_FnExactDiskWrite.j1 kj14 a1 a2 t260 (t279 != t260) l0_0 l0_1 a0_2 a0_3 t252 t255 t258 t259 t271 t274 t277 t278) else (laws_FnExactDiskWrite.j1 kj14 a1 a2 t260 true l0_0 l0_1 a0_2 a0_3 t252 t255 t258 t259 t271 t274 t277 t278)))) = some true := H
              have A67 := Aside0.mk A670
              clear A670
              have HC68 := Aside0.mk H
              clear H
              try go_wp2
              have n0_ := Aside0.mk (Kd.qN HO_262000.out)
              have n1_ := Aside0.mk (Kd.qN HO_262001.out)
              have n2_ := Aside0.mk (Kd.qN HO_271000.out)
              have n3_ := Aside0.mk (Kd.qN HO_271001.out)
              have n4_ := Aside0.mk (Kd.qN HO_281000.out)
              have n5_ := Aside0.mk (Kd.qN HO_281001.out)
              have n6_ := Aside0.mk (qI BK242.out)
              have n7_ := Aside0.mk (qI BK261.out)
              have n8_ := Aside0.mk (qI BK270.out)
              have n9_ := Aside0.mk (qI BK280.out)
              have n10_ := Aside0.mk (qG HB.out)
              clear HO_262000
              clear HO_262001
              clear HO_271000
              clear HO_271001
              clear HO_281000
              clear HO_281001
              clear BK242
              clear BK261
              clear BK270
              clear BK280
              clear HB
              have HO_262000 := n0_
              have HO_262001 := n1_
              have HO_271000 := n2_
              have HO_271001 := n3_
              have HO_281000 := n4_
              have HO_281001 := n5_
              have BK242 := n6_
              have BK261 := n7_
              have BK270 := n8_
              have BK280 := n9_
              have HB := n10_
              clear n0_ n1_ n2_ n3_ n4_ n5_ n6_ n7_ n8_ n9_ n10_
              refine start_ (n := 5) (S := fun w' => w'.cell? ⟨gb270, 0, none⟩ = some (.slice Ao32 t262.length co32) ∧ w'.cell? ⟨gb270, 1, none⟩ = some (.slice Ao36 t265.length co36) ∧ w'.cell? ⟨gb270, 2, none⟩ = some (.int .i64 t268) ∧ w'.cell? ⟨gb270, 3, none⟩ = some (.int .i64 t269) ∧ w'.cell? ⟨gb242, 0, none⟩ = some (.slice A0_0 l0_0.length c0_0) ∧ w'.cell? ⟨gb242, 1, none⟩ = some (.slice A0_1 l0_1.length c0_1) ∧ w'.cell? ⟨gb242, 2, none⟩ = some (.int .i64 a0_2) ∧ w'.cell? ⟨gb242, 3, none⟩ = some (.int .i64 a0_3)) (ds := []) #[false, false, false, false, false] (by kernel_rfl) rfl rfl ⟨(qC BK270.out 0).trans rfl, (qC BK270.out 1).trans rfl, (qC BK270.out 2).trans rfl, (qC BK270.out 3).trans rfl, (qC BK242.out 0).trans rfl, (qC BK242.out 1).trans rfl, (qC BK242.out 2).trans rfl, (qC BK242.out 3).trans rfl⟩ (fun hHeld => ?_)
              generalize wc.drew = w69 at HO_262000 HO_262001 HO_271000 HO_271001 HO_281000 HO_281001 BK242 BK261 BK270 BK280 HB hHeld ⊢
              refine take_ (i := 0) (N := some 52) (v := ?_) (a' := ?_) #[true, false, false, false, false] rfl rfl (by kernel_rfl) (fun _ _ _ h => h) (Or.inl ⟨by rfl, ?_⟩) hHeld ?_ ?_
              rotate_left
              · rintro w' ⟨s0, s1, s2, s3, s4, s5, s6, s7⟩
                go_simp
                with_reducible rfl
              rotate_left
              · simp only [Act.put, List.setIfInBounds_toArray, List.set_cons_zero, List.set_cons_succ, i64_w, i32_w]
                rfl
              refine take_ (i := 1) (N := some 53) (v := ?_) (a' := ?_) #[true, true, false, false, false] rfl rfl (by kernel_rfl) (fun _ _ _ h => h) (Or.inl ⟨by rfl, ?_⟩) hHeld ?_ ?_
              rotate_left
              · rintro w' ⟨s0, s1, s2, s3, s4, s5, s6, s7⟩
                go_simp
                with_reducible rfl
              rotate_left
              · simp only [Act.put, List.setIfInBounds_toArray, List.set_cons_zero, List.set_cons_succ, i64_w, i32_w]
                rfl
              refine one_ (i := 2) (N := some 54) #[true, true, true, false, false] rfl rfl (by kernel_rfl) (by decide) (fun K hK => ?_)
              refine goes_ Try.func24 (by kernel_rfl) rfl #[.agg #[.slice A0_0 l0_0.length c0_0, .slice A0_1 l0_1.length c0_1, .int .i64 a0_2, .int .i64 a0_3]] (by rfl) rfl rfl (by (try simp only [List.map_toArray, List.map_cons, List.map_nil]); first | done | rfl | (simp only [List.length_drop, List.length_take]; rfl)) ?_
              with_reducible refine (laws_toDisk.calls kj14 _ _ l0_0 _ _ l0_1 a0_2 a0_3 t282 t285 t288 t289 _ ?side1 ?side2 ?side3 ?side4 A64.out).mono ?_
              (case side1 => repeat (first | exact (Kd.qY HR0_0.out HB.out) | (with_reducible refine Kd.qZ ?_ _) | (with_reducible refine Kd.zA ?_ _) | (with_reducible refine Kd.zC ?_)))
              (case side2 => exact HC0_0.out)
              (case side3 => repeat (first | exact (Kd.qY HR0_1.out HB.out) | (with_reducible refine Kd.qZ ?_ _) | (with_reducible refine Kd.zA ?_ _) | (with_reducible refine Kd.zC ?_)))
              (case side4 => exact HC0_1.out)
              rintro e w70 ⟨v283, v286, rfl, ho0, ho1, hb⟩
              refine ⟨_, rfl, ?_⟩
              have n0_ := Aside0.mk (Kd.zF (by (with_reducible repeat (first | apply Kd.qK | apply Kd.qJ | apply Kd.qN)); exact HO_262000.out) (Kd.zI ho0) hb)
              have n1_ := Aside0.mk (Kd.zF (by (with_reducible repeat (first | apply Kd.qK | apply Kd.qJ | apply Kd.qN)); exact HO_262001.out) (Kd.zI ho1) hb)
              have n2_ := Aside0.mk (Kd.zF (by (with_reducible repeat (first | apply Kd.qK | apply Kd.qJ | apply Kd.qN)); exact HO_271000.out) (Kd.zI ho0) hb)
              have n3_ := Aside0.mk (Kd.zF (by (with_reducible repeat (first | apply Kd.qK | apply Kd.qJ | apply Kd.qN)); exact HO_271001.out) (Kd.zI ho1) hb)
              have n4_ := Aside0.mk (Kd.zF (by (with_reducible repeat (first | apply Kd.qK | apply Kd.qJ | apply Kd.qN)); exact HO_281000.out) (Kd.zI ho0) hb)
              have n5_ := Aside0.mk (Kd.zF (by (with_reducible repeat (first | apply Kd.qK | apply Kd.qJ | apply Kd.qN)); exact HO_281001.out) (Kd.zI ho1) hb)
              have n6_ := Aside0.mk (Kd.zG (Kd.zJ (Kd.zJ (Kd.zJ ho0 (Kd.R_lt (by (with_reducible repeat (first | apply Kd.qK | apply Kd.qJ | apply Kd.qN)); exact HO_262000.out))) (Kd.R_lt (by (with_reducible repeat (first | apply Kd.qK | apply Kd.qJ | apply Kd.qN)); exact HO_271000.out))) (Kd.R_lt (by (with_reducible repeat (first | apply Kd.qK | apply Kd.qJ | apply Kd.qN)); exact HO_281000.out))) (qM (by repeat (first | (with_reducible first | exact HB.out | apply qH | apply qA | apply qG | refine qF ?_ GE242.out | refine qF ?_ GE261.out | refine qF ?_ GE270.out | refine qF ?_ GE280.out) | exact HB.out))))
              have n7_ := Aside0.mk (Kd.zG (Kd.zJ (Kd.zJ (Kd.zJ ho1 (Kd.R_lt (by (with_reducible repeat (first | apply Kd.qK | apply Kd.qJ | apply Kd.qN)); exact HO_262001.out))) (Kd.R_lt (by (with_reducible repeat (first | apply Kd.qK | apply Kd.qJ | apply Kd.qN)); exact HO_271001.out))) (Kd.R_lt (by (with_reducible repeat (first | apply Kd.qK | apply Kd.qJ | apply Kd.qN)); exact HO_281001.out))) (qM (by repeat (first | (with_reducible first | exact HB.out | apply qH | apply qA | apply qG | refine qF ?_ GE242.out | refine qF ?_ GE261.out | refine qF ?_ GE270.out | refine qF ?_ GE280.out) | exact HB.out))))
              have n8_ := Aside0.mk (qL (g := gb242) (o := .cells #[.slice A0_0 l0_0.length c0_0, .slice A0_1 l0_1.length c0_1, .int .i64 a0_2, .int .i64 a0_3] 43 (0, 0)) (by (with_reducible repeat (first | refine qE ?_ _ | refine qI ?_ | refine qD ?_ _)); exact BK242.out) hb)
              have n9_ := Aside0.mk (qL (g := gb261) (o := .cells #[.slice Ao25 t252.length co25, .slice Ao28 t255.length co28, .int .i64 t258, .int .i64 t259] 26 (0, 0)) (by (with_reducible repeat (first | refine qE ?_ _ | refine qI ?_ | refine qD ?_ _)); exact BK261.out) hb)
              have n10_ := Aside0.mk (qL (g := gb270) (o := .cells #[.slice Ao32 t262.length co32, .slice Ao36 t265.length co36, .int .i64 t268, .int .i64 t269] 26 (0, 0)) (by (with_reducible repeat (first | refine qE ?_ _ | refine qI ?_ | refine qD ?_ _)); exact BK270.out) hb)
              have n11_ := Aside0.mk (qL (g := gb280) (o := .cells #[.slice Ao39 t271.length co39, .slice Ao44 t274.length co44, .int .i64 t277, .int .i64 t278] 26 (0, 0)) (by (with_reducible repeat (first | refine qE ?_ _ | refine qI ?_ | refine qD ?_ _)); exact BK280.out) hb)
              have n12_ := Aside0.mk (qO (by repeat (first | (with_reducible first | exact HB.out | apply qH | apply qA | apply qG | refine qF ?_ GE242.out | refine qF ?_ GE261.out | refine qF ?_ GE270.out | refine qF ?_ GE280.out) | exact HB.out)) hb)
              clear HO_262000
              clear HO_262001
              clear HO_271000
              clear HO_271001
              clear HO_281000
              clear HO_281001
              clear BK242
              clear BK261
              clear BK270
              clear BK280
              clear HB
              have HO_262000 := n0_
              have HO_262001 := n1_
              have HO_271000 := n2_
              have HO_271001 := n3_
              have HO_281000 := n4_
              have HO_281001 := n5_
              have HO284 := n6_
              have HO287 := n7_
              have BK242 := n8_
              have BK261 := n9_
              have BK270 := n10_
              have BK280 := n11_
              have HB := n12_
              clear n0_ n1_ n2_ n3_ n4_ n5_ n6_ n7_ n8_ n9_ n10_ n11_ n12_
              (try clear hb)
              (try clear hb2)
              (try clear hk)
              (try clear hi)
              (try clear ho0)
              (try clear ho1)
              obtain ⟨Ao71, co71, eo71⟩ := Kd.zE HO284.out
              (first | subst eo71 | (injection eo71 with f1_ f2_ f3_; have f4_ := f1_.symm; have f5_ := f3_.symm; clear f1_ f2_ f3_; subst f4_; subst f5_))
              obtain ⟨Ao72, co72, eo72⟩ := Kd.zE HO287.out
              (first | subst eo72 | (injection eo72 with f1_ f2_ f3_; have f4_ := f1_.symm; have f5_ := f3_.symm; clear f1_ f2_ f3_; subst f4_; subst f5_))
              refine hK.out _ _ ⟨(qC BK270.out 0).trans rfl, (qC BK270.out 1).trans rfl, (qC BK270.out 2).trans rfl, (qC BK270.out 3).trans rfl, (qC BK242.out 0).trans rfl, (qC BK242.out 1).trans rfl, (qC BK242.out 2).trans rfl, (qC BK242.out 3).trans rfl⟩ (fun hHeld => ?_)
              clear hK K
              refine norm_ (a' := ?_) ?_ ?_
              rotate_left
              · show Act.put _ (some 54) _ = _
                simp only [Act.put, List.setIfInBounds_toArray, List.set_cons_zero, List.set_cons_succ, i64_w, i32_w]
                rfl
              refine one_ (i := 3) (N := some 55) #[true, true, true, true, false] rfl rfl (by kernel_rfl) (by decide) (fun K hK => ?_)
              refine goes_ Try.func25 (by kernel_rfl) rfl #[.agg #[.slice Ao32 t262.length co32, .slice Ao36 t265.length co36, .int .i64 t268, .int .i64 t269], .agg #[.slice Ao71 t282.length co71, .slice Ao72 t285.length co72, .int .i64 t288, .int .i64 t289]] (by rfl) rfl rfl (by (try simp only [List.map_toArray, List.map_cons, List.map_nil]); first | done | rfl | (simp only [List.length_drop, List.length_take]; rfl)) ?_
              with_reducible refine (laws_eqDisk.calls kj14 _ _ t262 _ _ t265 t268 t269 _ _ t282 _ _ t285 t288 t289 true _ ?side1 ?side2 ?side3 ?side4 ?side5 ?side6 ?side7 ?side8 A65.out).mono ?_
              (case side1 => repeat (first | exact (Kd.qS HO_271000.out).2.2 | (with_reducible refine Kd.qZ ?_ _) | (with_reducible refine Kd.zA ?_ _) | (with_reducible refine Kd.zC ?_)))
              (case side2 => exact (Kd.qS HO_271000.out).2.1)
              (case side3 => repeat (first | exact (Kd.qS HO_271001.out).2.2 | (with_reducible refine Kd.qZ ?_ _) | (with_reducible refine Kd.zA ?_ _) | (with_reducible refine Kd.zC ?_)))
              (case side4 => exact (Kd.qS HO_271001.out).2.1)
              (case side5 => repeat (first | exact (Kd.qS HO284.out).2.2 | (with_reducible refine Kd.qZ ?_ _) | (with_reducible refine Kd.zA ?_ _) | (with_reducible refine Kd.zC ?_)))
              (case side6 => exact (Kd.qS HO284.out).2.1)
              (case side7 => repeat (first | exact (Kd.qS HO287.out).2.2 | (with_reducible refine Kd.qZ ?_ _) | (with_reducible refine Kd.zA ?_ _) | (with_reducible refine Kd.zC ?_)))
              (case side8 => exact (Kd.qS HO287.out).2.1)
              rintro e w73 ⟨rfl, hb⟩
              refine ⟨_, rfl, ?_⟩
              have n0_ := Aside0.mk (Kd.qR (by (with_reducible repeat (first | apply Kd.qK | apply Kd.qJ | apply Kd.qN)); exact HO_262000.out) hb)
              have n1_ := Aside0.mk (Kd.qR (by (with_reducible repeat (first | apply Kd.qK | apply Kd.qJ | apply Kd.qN)); exact HO_262001.out) hb)
              have n2_ := Aside0.mk (Kd.qR (by (with_reducible repeat (first | apply Kd.qK | apply Kd.qJ | apply Kd.qN)); exact HO_271000.out) hb)
              have n3_ := Aside0.mk (Kd.qR (by (with_reducible repeat (first | apply Kd.qK | apply Kd.qJ | apply Kd.qN)); exact HO_271001.out) hb)
              have n4_ := Aside0.mk (Kd.qR (by (with_reducible repeat (first | apply Kd.qK | apply Kd.qJ | apply Kd.qN)); exact HO_281000.out) hb)
              have n5_ := Aside0.mk (Kd.qR (by (with_reducible repeat (first | apply Kd.qK | apply Kd.qJ | apply Kd.qN)); exact HO_281001.out) hb)
              have n6_ := Aside0.mk (Kd.qR (by (with_reducible repeat (first | apply Kd.qK | apply Kd.qJ | apply Kd.qN)); exact HO284.out) hb)
              have n7_ := Aside0.mk (Kd.qR (by (with_reducible repeat (first | apply Kd.qK | apply Kd.qJ | apply Kd.qN)); exact HO287.out) hb)
              have n8_ := Aside0.mk (qL (g := gb242) (o := .cells #[.slice A0_0 l0_0.length c0_0, .slice A0_1 l0_1.length c0_1, .int .i64 a0_2, .int .i64 a0_3] 43 (0, 0)) (by (with_reducible repeat (first | refine qE ?_ _ | refine qI ?_ | refine qD ?_ _)); exact BK242.out) hb)
              have n9_ := Aside0.mk (qL (g := gb261) (o := .cells #[.slice Ao25 t252.length co25, .slice Ao28 t255.length co28, .int .i64 t258, .int .i64 t259] 26 (0, 0)) (by (with_reducible repeat (first | refine qE ?_ _ | refine qI ?_ | refine qD ?_ _)); exact BK261.out) hb)
              have n10_ := Aside0.mk (qL (g := gb270) (o := .cells #[.slice Ao32 t262.length co32, .slice Ao36 t265.length co36, .int .i64 t268, .int .i64 t269] 26 (0, 0)) (by (with_reducible repeat (first | refine qE ?_ _ | refine qI ?_ | refine qD ?_ _)); exact BK270.out) hb)
              have n11_ := Aside0.mk (qL (g := gb280) (o := .cells #[.slice Ao39 t271.length co39, .slice Ao44 t274.length co44, .int .i64 t277, .int .i64 t278] 26 (0, 0)) (by (with_reducible repeat (first | refine qE ?_ _ | refine qI ?_ | refine qD ?_ _)); exact BK280.out) hb)
              have n12_ := Aside0.mk (qO (by repeat (first | (with_reducible first | exact HB.out | apply qH | apply qA | apply qG | refine qF ?_ GE242.out | refine qF ?_ GE261.out | refine qF ?_ GE270.out | refine qF ?_ GE280.out) | exact HB.out)) hb)
              clear HO_262000
              clear HO_262001
              clear HO_271000
              clear HO_271001
              clear HO_281000
              clear HO_281001
              clear HO284
              clear HO287
              clear BK242
              clear BK261
              clear BK270
              clear BK280
              clear HB
              have HO_262000 := n0_
              have HO_262001 := n1_
              have HO_271000 := n2_
              have HO_271001 := n3_
              have HO_281000 := n4_
              have HO_281001 := n5_
              have HO284 := n6_
              have HO287 := n7_
              have BK242 := n8_
              have BK261 := n9_
              have BK270 := n10_
              have BK280 := n11_
              have HB := n12_
              clear n0_ n1_ n2_ n3_ n4_ n5_ n6_ n7_ n8_ n9_ n10_ n11_ n12_
              (try clear hb)
              (try clear hb2)
              (try clear hk)
              (try clear hi)
              refine hK.out _ _ ⟨(qC BK270.out 0).trans rfl, (qC BK270.out 1).trans rfl, (qC BK270.out 2).trans rfl, (qC BK270.out 3).trans rfl, (qC BK242.out 0).trans rfl, (qC BK242.out 1).trans rfl, (qC BK242.out 2).trans rfl, (qC BK242.out 3).trans rfl⟩ (fun hHeld => ?_)
              clear hK K
              refine norm_ (a' := ?_) ?_ ?_
              rotate_left
              · show Act.put _ (some 55) _ = _
                simp only [Act.put, List.setIfInBounds_toArray, List.set_cons_zero, List.set_cons_succ, i64_w, i32_w]
                rfl
              refine pure_ (i := 4) (N := some 56) (v := ?_) (a' := ?_) #[true, true, true, true, true] rfl rfl (by kernel_rfl) (fun _ _ _ h => h) (Or.inl ⟨by rfl, ?_⟩) ?_ ?_
              rotate_left
              · intro w'
                go_simp
                with_reducible rfl
              rotate_left
              · simp only [Act.put, List.setIfInBounds_toArray, List.set_cons_zero, List.set_cons_succ, i64_w, i32_w]
                rfl
              refine done_ (by kernel_rfl) ?_
              have hnb74 := NB270_242.out
              have hnc74 := NB242_270.out
              have hnb75 := NB270_261.out
              have hnc75 := NB261_270.out
              have hnb76 := NB270_280.out
              have hnc76 := NB280_270.out
              have hcz77_0 : w73.cell? ⟨gb270, 0, none⟩ = some (.slice Ao32 t262.length co32) := (qC BK270.out 0).trans rfl
              have hcz77_1 : w73.cell? ⟨gb270, 1, none⟩ = some (.slice Ao36 t265.length co36) := (qC BK270.out 1).trans rfl
              have hcz77_2 : w73.cell? ⟨gb270, 2, none⟩ = some (.int .i64 t268) := (qC BK270.out 2).trans rfl
              have hcz77_3 : w73.cell? ⟨gb270, 3, none⟩ = some (.int .i64 t269) := (qC BK270.out 3).trans rfl
              have hfz77_0 := qB BK270.out 0
              have hfz77_1 := qB BK270.out 1
              have hfz77_2 := qB BK270.out 2
              have hfz77_3 := qB BK270.out 3
              go_upto_region 16 with (first | ((with_reducible refine qT (f := 26) rfl ?_); refine zD (some 59) rfl rfl Try.func26 (by kernel_rfl) rfl #[.agg #[.slice Ao32 t262.length co32, .slice Ao36 t265.length co36, .int .i64 t268, .int .i64 t269], .int .i64 1] rfl (by (try simp only [List.map_toArray, List.map_cons, List.map_nil]); first | done | rfl | (simp only [List.length_drop, List.length_take]; rfl)) ?_; (with_reducible refine (laws_markDisk.calls kj14 (fun k_ => some k_ = (.slice Ao32 t262.length co32 : Value).ownBlock) (.slice Ao32 t262.length co32) t262 (fun k_ => some k_ = (.slice Ao36 t265.length co36 : Value).ownBlock) (.slice Ao36 t265.length co36) t265 t268 t269 1 t291 t292 t293 w _ ?side1 ?side2 ?side3 A67.out).mono ?_); (case side1 => repeat (first | (with_reducible first | exact HB.out | apply qH | apply qA | apply qG | refine qF ?_ GE242.out | refine qF ?_ GE261.out | refine qF ?_ GE270.out | refine qF ?_ GE280.out) | exact HB.out)); (case side2 => exact Kd.R_tight rfl HO_271000.out); (case side3 => exact Kd.R_tight rfl HO_271001.out); rintro e w78 ⟨rfl, hy0, hy1, hb, hkp⟩; refine ⟨_, rfl, ?_⟩; have n0_ := Aside0.mk (Kd.qP (ok' := fun k_ => some k_ ≠ (.slice Ao32 t262.length co32 : Value).ownBlock ∧ some k_ ≠ (.slice Ao39 t271.length co39 : Value).ownBlock ∧ some k_ ≠ (.slice Ao71 t282.length co71 : Value).ownBlock) (Kd.zZ ((Kd.zR HO_262000.out (Kd.zO HO_271001.out) (by decide))) hkp (fun k_ hk_ hs_ => Or.elim hs_ (fun e_ => (hk_.1.1.1) e_) (fun e_ => (hk_.2) e_))) (fun k_ hk_ => ⟨hk_.1.1.1.1, hk_.1.1.1.2, hk_.1.1.2⟩)); have n1_ := Aside0.mk (Kd.qP (ok' := fun k_ => some k_ ≠ (.slice Ao36 t265.length co36 : Value).ownBlock ∧ some k_ ≠ (.slice Ao44 t274.length co44 : Value).ownBlock ∧ some k_ ≠ (.slice Ao72 t285.length co72 : Value).ownBlock) (Kd.zZ ((Kd.zR HO_262001.out (Kd.zO HO_271000.out) (by decide))) hkp (fun k_ hk_ hs_ => Or.elim hs_ (fun e_ => (hk_.2) e_) (fun e_ => (hk_.1.1.1) e_))) (fun k_ hk_ => ⟨hk_.1.1.1.1, hk_.1.1.1.2, hk_.1.1.2⟩)); have n2_ := Aside0.mk (Kd.R_reok rfl hy0 (fun k_ e_ => HO_271000.out.1 k_ e_)); have n3_ := Aside0.mk (Kd.R_reok rfl hy1 (fun k_ e_ => HO_271001.out.1 k_ e_)); have n4_ := Aside0.mk (Kd.qP (ok' := fun k_ => some k_ ≠ (.slice Ao25 t252.length co25 : Value).ownBlock ∧ some k_ ≠ (.slice Ao32 t262.length co32 : Value).ownBlock ∧ some k_ ≠ (.slice Ao71 t282.length co71 : Value).ownBlock) (Kd.zZ ((Kd.zR HO_281000.out (Kd.zO HO_271001.out) (by decide))) hkp (fun k_ hk_ hs_ => Or.elim hs_ (fun e_ => (hk_.1.1.2) e_) (fun e_ => (hk_.2) e_))) (fun k_ hk_ => ⟨hk_.1.1.1.1, hk_.1.1.1.2, hk_.1.1.2⟩)); have n5_ := Aside0.mk (Kd.qP (ok' := fun k_ => some k_ ≠ (.slice Ao28 t255.length co28 : Value).ownBlock ∧ some k_ ≠ (.slice Ao36 t265.length co36 : Value).ownBlock ∧ some k_ ≠ (.slice Ao72 t285.length co72 : Value).ownBlock) (Kd.zZ ((Kd.zR HO_281001.out (Kd.zO HO_271000.out) (by decide))) hkp (fun k_ hk_ hs_ => Or.elim hs_ (fun e_ => (hk_.2) e_) (fun e_ => (hk_.1.1.2) e_))) (fun k_ hk_ => ⟨hk_.1.1.1.1, hk_.1.1.1.2, hk_.1.1.2⟩)); have n6_ := Aside0.mk (zX (by (with_reducible repeat (first | refine qE ?_ _ | refine qI ?_ | refine qD ?_ _)); exact BK242.out) hkp (fun hs_ => Or.elim hs_ (fun e_ => (fun e_ => (Kd.R_ne HO_271000.out BK242.out (by decide)) e_) e_) (fun e_ => (fun e_ => (Kd.R_ne HO_271001.out BK242.out (by decide)) e_) e_))); have n7_ := Aside0.mk (zX (by (with_reducible repeat (first | refine qE ?_ _ | refine qI ?_ | refine qD ?_ _)); exact BK261.out) hkp (fun hs_ => Or.elim hs_ (fun e_ => (fun e_ => (Kd.R_ne HO_271000.out BK261.out (by decide)) e_) e_) (fun e_ => (fun e_ => (Kd.R_ne HO_271001.out BK261.out (by decide)) e_) e_))); have n8_ := Aside0.mk (zX (by (with_reducible repeat (first | refine qE ?_ _ | refine qI ?_ | refine qD ?_ _)); exact BK270.out) hkp (fun hs_ => Or.elim hs_ (fun e_ => (fun e_ => (Kd.R_ne HO_271000.out BK270.out (by decide)) e_) e_) (fun e_ => (fun e_ => (Kd.R_ne HO_271001.out BK270.out (by decide)) e_) e_))); have n9_ := Aside0.mk (zX (by (with_reducible repeat (first | refine qE ?_ _ | refine qI ?_ | refine qD ?_ _)); exact BK280.out) hkp (fun hs_ => Or.elim hs_ (fun e_ => (fun e_ => (Kd.R_ne HO_271000.out BK280.out (by decide)) e_) e_) (fun e_ => (fun e_ => (Kd.R_ne HO_271001.out BK280.out (by decide)) e_) e_))); have n10_ := Aside0.mk (Kd.qP (ok' := fun k_ => some k_ ≠ (.slice Ao25 t252.length co25 : Value).ownBlock ∧ some k_ ≠ (.slice Ao32 t262.length co32 : Value).ownBlock ∧ some k_ ≠ (.slice Ao39 t271.length co39 : Value).ownBlock) (Kd.zZ ((Kd.zR HO284.out (Kd.zO HO_271001.out) (by decide))) hkp (fun k_ hk_ hs_ => Or.elim hs_ (fun e_ => (hk_.1.1.2) e_) (fun e_ => (hk_.2) e_))) (fun k_ hk_ => ⟨hk_.1.1.1.1.2, hk_.1.1.1.2, hk_.1.1.2⟩)); have n11_ := Aside0.mk (Kd.qP (ok' := fun k_ => some k_ ≠ (.slice Ao28 t255.length co28 : Value).ownBlock ∧ some k_ ≠ (.slice Ao36 t265.length co36 : Value).ownBlock ∧ some k_ ≠ (.slice Ao44 t274.length co44 : Value).ownBlock) (Kd.zZ ((Kd.zR HO287.out (Kd.zO HO_271000.out) (by decide))) hkp (fun k_ hk_ hs_ => Or.elim hs_ (fun e_ => (hk_.2) e_) (fun e_ => (hk_.1.1.2) e_))) (fun k_ hk_ => ⟨hk_.1.1.1.1.2, hk_.1.1.1.2, hk_.1.1.2⟩)); have n12_ := Aside0.mk (hb); clear HO_262000; clear HO_262001; clear HO_271000; clear HO_271001; clear HO_281000; clear HO_281001; clear BK242; clear BK261; clear BK270; clear BK280; clear HO284; clear HO287; clear HB; have HO_262000 := n0_; have HO_262001 := n1_; have HO_271000 := n2_; have HO_271001 := n3_; have HO_281000 := n4_; have HO_281001 := n5_; have BK242 := n6_; have BK261 := n7_; have BK270 := n8_; have BK280 := n9_; have HO284 := n10_; have HO287 := n11_; have HB := n12_; clear n0_ n1_ n2_ n3_ n4_ n5_ n6_ n7_ n8_ n9_ n10_ n11_ n12_; (try clear hb); (try clear hkp); (try clear hy0); (try clear hy1)))
              (try simp only [Act.put, List.setIfInBounds_toArray, List.set_cons_zero, List.set_cons_succ])
              go_cut [72] (fun v72 wc => ∃ (kq : Nat) (x72_67 : Bool), v72 = .bool x72_67 ∧ Aside0 (laws_FnExactDiskWrite.j1 kq a1 a2 t260 x72_67 l0_0 l0_1 a0_2 a0_3 t252 t255 t258 t259 t271 t274 t277 t278 = some true) ∧ Aside0 (kq ≤ kj14) ∧ Aside0 (Kd.R Kd.string 9 wc w.heap.size (fun k_ => some k_ ≠ ((.slice Ao32 t262.length co32) : Value).ownBlock ∧ some k_ ≠ ((.slice Ao39 t271.length co39) : Value).ownBlock) (.slice Ao25 t252.length co25) t252) ∧ Aside0 (Kd.R k70 70 wc w.heap.size (fun k_ => some k_ ≠ ((.slice Ao36 t265.length co36) : Value).ownBlock ∧ some k_ ≠ ((.slice Ao44 t274.length co44) : Value).ownBlock) (.slice Ao28 t255.length co28) t255) ∧ Aside0 (Kd.R Kd.string 9 wc w.heap.size (fun k_ => some k_ ≠ ((.slice Ao25 t252.length co25) : Value).ownBlock ∧ some k_ ≠ ((.slice Ao39 t271.length co39) : Value).ownBlock) (.slice Ao32 t262.length co32) t292) ∧ Aside0 (Kd.R k70 70 wc w.heap.size (fun k_ => some k_ ≠ ((.slice Ao28 t255.length co28) : Value).ownBlock ∧ some k_ ≠ ((.slice Ao44 t274.length co44) : Value).ownBlock) (.slice Ao36 t265.length co36) t293) ∧ Aside0 (Kd.R Kd.string 9 wc w.heap.size (fun k_ => some k_ ≠ ((.slice Ao25 t252.length co25) : Value).ownBlock ∧ some k_ ≠ ((.slice Ao32 t262.length co32) : Value).ownBlock) (.slice Ao39 t271.length co39) t271) ∧ Aside0 (Kd.R k70 70 wc w.heap.size (fun k_ => some k_ ≠ ((.slice Ao28 t255.length co28) : Value).ownBlock ∧ some k_ ≠ ((.slice Ao36 t265.length co36) : Value).ownBlock) (.slice Ao44 t274.length co44) t274) ∧ Aside0 (wc.heap[gb242]? = some (.cells #[(.slice A0_0 l0_0.length c0_0), (.slice A0_1 l0_1.length c0_1), .int .i64 a0_2, .int .i64 a0_3] 43 (0, 0))) ∧ Aside0 (wc.heap[gb261]? = some (.cells #[(.slice Ao25 t252.length co25), (.slice Ao28 t255.length co28), .int .i64 t258, .int .i64 t259] 26 (0, 0))) ∧ Aside0 (wc.heap[gb270]? = some (.cells #[(.slice Ao32 t262.length co32), (.slice Ao36 t265.length co36), .int .i64 t268, .int .i64 t269] 26 (0, 0))) ∧ Aside0 (wc.heap[gb280]? = some (.cells #[(.slice Ao39 t271.length co39), (.slice Ao44 t274.length co44), .int .i64 t277, .int .i64 t278] 26 (0, 0))) ∧ Aside0 (Below w.heap.size w wc))
              case first =>
                have H := HC68.out
                clear HC68
                by_cases c79 : t291 < 0
                · rw [if_pos c79] at H
                  have c79b0 : decide (t291 < 0) = true := decide_eq_true c79
                  clear c79
                  (first | rw [c79b0] | (simp only [i64_w, i32_w]; rw [c79b0]) | skip)
                  have H' := Aside0.mk H
                  clear H
                  go_wp2
                  go_meet
                  case rel => exact ⟨_, (true), (by first | rfl | (simp; done) | (simp [*]; done)), H', ⟨by have := HJ14.out; first | omega | exact Nat.le_refl _⟩, ⟨by (with_reducible repeat (first | apply Kd.qK | apply Kd.qJ | apply Kd.qN)); exact Kd.qP HO_262000.out (fun _ hk => ⟨hk.1, hk.2.1⟩)⟩, ⟨by (with_reducible repeat (first | apply Kd.qK | apply Kd.qJ | apply Kd.qN)); exact Kd.qP HO_262001.out (fun _ hk => ⟨hk.1, hk.2.1⟩)⟩, ⟨by (with_reducible repeat (first | apply Kd.qK | apply Kd.qJ | apply Kd.qN)); exact Kd.qP HO_271000.out (fun _ hk => ⟨hk.1.1, hk.1.2⟩)⟩, ⟨by (with_reducible repeat (first | apply Kd.qK | apply Kd.qJ | apply Kd.qN)); exact Kd.qP HO_271001.out (fun _ hk => ⟨hk.1.1, hk.1.2⟩)⟩, ⟨by (with_reducible repeat (first | apply Kd.qK | apply Kd.qJ | apply Kd.qN)); exact Kd.qP HO_281000.out (fun _ hk => ⟨hk.1, hk.2.1⟩)⟩, ⟨by (with_reducible repeat (first | apply Kd.qK | apply Kd.qJ | apply Kd.qN)); exact Kd.qP HO_281001.out (fun _ hk => ⟨hk.1, hk.2.1⟩)⟩, ⟨by (with_reducible repeat (first | refine qE ?_ _ | refine qI ?_ | refine qD ?_ _)); exact BK242.out⟩, ⟨by (with_reducible repeat (first | refine qE ?_ _ | refine qI ?_ | refine qD ?_ _)); exact BK261.out⟩, ⟨by (with_reducible repeat (first | refine qE ?_ _ | refine qI ?_ | refine qD ?_ _)); exact BK270.out⟩, ⟨by (with_reducible repeat (first | refine qE ?_ _ | refine qI ?_ | refine qD ?_ _)); exact BK280.out⟩, ⟨by repeat (first | (with_reducible first | exact HB.out | apply qH | apply qA | apply qG | refine qF ?_ GE242.out | refine qF ?_ GE261.out | refine qF ?_ GE270.out | refine qF ?_ GE280.out) | exact HB.out)⟩⟩
                · rw [if_neg c79] at H
                  have c79b0 : decide (t291 < 0) = false := decide_eq_false c79
                  clear c79
                  (first | rw [c79b0] | (simp only [i64_w, i32_w]; rw [c79b0]) | skip)
                  replace H := Option.bind_eq_some_iff.mp H
                  obtain ⟨t294, A800, H⟩ := H
                  replace H : (if t294 = true then (laws_FnExactDiskWrite.j1 kj14 a1 a2 t260 (t279 != t260) l0_0 l0_1 a0_2 a0_3 t252 t255 t258 t259 t271 t274 t277 t278) else (laws_FnExactDiskWrite.j1 kj14 a1 a2 t260 true l0_0 l0_1 a0_2 a0_3 t252 t255 t258 t259 t271 t274 t277 t278)) = some true := H
                  have A80 := Aside0.mk A800
                  clear A800
                  by_cases c81 : t294 = true
                  · subst c81
                    have H1 : (laws_FnExactDiskWrite.j1 kj14 a1 a2 t260 (t279 != t260) l0_0 l0_1 a0_2 a0_3 t252 t255 t258 t259 t271 t274 t277 t278) = some true := by rw [if_pos rfl] at H; exact H
                    clear H
                    have H := H1
                    clear H1
                    have H' := Aside0.mk H
                    clear H
                    have hnb82 := NB280_242.out
                    have hnc82 := NB242_280.out
                    have hnb83 := NB280_261.out
                    have hnc83 := NB261_280.out
                    have hnb84 := NB280_270.out
                    have hnc84 := NB270_280.out
                    have hcz85_0 : w78.cell? ⟨gb280, 0, none⟩ = some (.slice Ao39 t271.length co39) := (qC BK280.out 0).trans rfl
                    have hcz85_1 : w78.cell? ⟨gb280, 1, none⟩ = some (.slice Ao44 t274.length co44) := (qC BK280.out 1).trans rfl
                    have hcz85_2 : w78.cell? ⟨gb280, 2, none⟩ = some (.int .i64 t277) := (qC BK280.out 2).trans rfl
                    have hcz85_3 : w78.cell? ⟨gb280, 3, none⟩ = some (.int .i64 t278) := (qC BK280.out 3).trans rfl
                    have hfz85_0 := qB BK280.out 0
                    have hfz85_1 := qB BK280.out 1
                    have hfz85_2 := qB BK280.out 2
                    have hfz85_3 := qB BK280.out 3
                    have hnb86 := NB261_242.out
                    have hnc86 := NB242_261.out
                    have hnb87 := NB261_270.out
                    have hnc87 := NB270_261.out
                    have hcz88_0 : w78.cell? ⟨gb261, 0, none⟩ = some (.slice Ao25 t252.length co25) := (qC BK261.out 0).trans rfl
                    have hcz88_1 : w78.cell? ⟨gb261, 1, none⟩ = some (.slice Ao28 t255.length co28) := (qC BK261.out 1).trans rfl
                    have hcz88_2 : w78.cell? ⟨gb261, 2, none⟩ = some (.int .i64 t258) := (qC BK261.out 2).trans rfl
                    have hcz88_3 : w78.cell? ⟨gb261, 3, none⟩ = some (.int .i64 t259) := (qC BK261.out 3).trans rfl
                    have hfz88_0 := qB BK261.out 0
                    have hfz88_1 := qB BK261.out 1
                    have hfz88_2 := qB BK261.out 2
                    have hfz88_3 := qB BK261.out 3
                    go_wp2_with (first | (go_at_call 25; (with_reducible refine (laws_eqDisk.calls kj14 _ _ t271 _ _ t274 t277 t278 _ _ t252 _ _ t255 t258 t259 true _ ?side1 ?side2 ?side3 ?side4 ?side5 ?side6 ?side7 ?side8 A80.out).mono ?_); (case side1 => repeat (first | exact (Kd.qS HO_281000.out).2.2 | (with_reducible refine Kd.qZ ?_ _) | (with_reducible refine Kd.zA ?_ _) | (with_reducible refine Kd.zC ?_))); (case side2 => exact (Kd.qS HO_281000.out).2.1); (case side3 => repeat (first | exact (Kd.qS HO_281001.out).2.2 | (with_reducible refine Kd.qZ ?_ _) | (with_reducible refine Kd.zA ?_ _) | (with_reducible refine Kd.zC ?_))); (case side4 => exact (Kd.qS HO_281001.out).2.1); (case side5 => repeat (first | exact (Kd.qS HO_262000.out).2.2 | (with_reducible refine Kd.qZ ?_ _) | (with_reducible refine Kd.zA ?_ _) | (with_reducible refine Kd.zC ?_))); (case side6 => exact (Kd.qS HO_262000.out).2.1); (case side7 => repeat (first | exact (Kd.qS HO_262001.out).2.2 | (with_reducible refine Kd.qZ ?_ _) | (with_reducible refine Kd.zA ?_ _) | (with_reducible refine Kd.zC ?_))); (case side8 => exact (Kd.qS HO_262001.out).2.1); rintro e w89 ⟨rfl, hb⟩; have n0_ := Aside0.mk (Kd.qR (by (with_reducible repeat (first | apply Kd.qK | apply Kd.qJ | apply Kd.qN)); exact HO_262000.out) hb); have n1_ := Aside0.mk (Kd.qR (by (with_reducible repeat (first | apply Kd.qK | apply Kd.qJ | apply Kd.qN)); exact HO_262001.out) hb); have n2_ := Aside0.mk (Kd.qR (by (with_reducible repeat (first | apply Kd.qK | apply Kd.qJ | apply Kd.qN)); exact HO_271000.out) hb); have n3_ := Aside0.mk (Kd.qR (by (with_reducible repeat (first | apply Kd.qK | apply Kd.qJ | apply Kd.qN)); exact HO_271001.out) hb); have n4_ := Aside0.mk (Kd.qR (by (with_reducible repeat (first | apply Kd.qK | apply Kd.qJ | apply Kd.qN)); exact HO_281000.out) hb); have n5_ := Aside0.mk (Kd.qR (by (with_reducible repeat (first | apply Kd.qK | apply Kd.qJ | apply Kd.qN)); exact HO_281001.out) hb); have n6_ := Aside0.mk (Kd.qR (by (with_reducible repeat (first | apply Kd.qK | apply Kd.qJ | apply Kd.qN)); exact HO284.out) hb); have n7_ := Aside0.mk (Kd.qR (by (with_reducible repeat (first | apply Kd.qK | apply Kd.qJ | apply Kd.qN)); exact HO287.out) hb); have n8_ := Aside0.mk (qL (g := gb242) (o := .cells #[.slice A0_0 l0_0.length c0_0, .slice A0_1 l0_1.length c0_1, .int .i64 a0_2, .int .i64 a0_3] 43 (0, 0)) (by (with_reducible repeat (first | refine qE ?_ _ | refine qI ?_ | refine qD ?_ _)); exact BK242.out) hb); have n9_ := Aside0.mk (qL (g := gb261) (o := .cells #[.slice Ao25 t252.length co25, .slice Ao28 t255.length co28, .int .i64 t258, .int .i64 t259] 26 (0, 0)) (by (with_reducible repeat (first | refine qE ?_ _ | refine qI ?_ | refine qD ?_ _)); exact BK261.out) hb); have n10_ := Aside0.mk (qL (g := gb270) (o := .cells #[.slice Ao32 t262.length co32, .slice Ao36 t265.length co36, .int .i64 t268, .int .i64 t269] 26 (0, 0)) (by (with_reducible repeat (first | refine qE ?_ _ | refine qI ?_ | refine qD ?_ _)); exact BK270.out) hb); have n11_ := Aside0.mk (qL (g := gb280) (o := .cells #[.slice Ao39 t271.length co39, .slice Ao44 t274.length co44, .int .i64 t277, .int .i64 t278] 26 (0, 0)) (by (with_reducible repeat (first | refine qE ?_ _ | refine qI ?_ | refine qD ?_ _)); exact BK280.out) hb); have n12_ := Aside0.mk (qO (by repeat (first | (with_reducible first | exact HB.out | apply qH | apply qA | apply qG | refine qF ?_ GE242.out | refine qF ?_ GE261.out | refine qF ?_ GE270.out | refine qF ?_ GE280.out) | exact HB.out)) hb); clear HO_262000; clear HO_262001; clear HO_271000; clear HO_271001; clear HO_281000; clear HO_281001; clear HO284; clear HO287; clear BK242; clear BK261; clear BK270; clear BK280; clear HB; have HO_262000 := n0_; have HO_262001 := n1_; have HO_271000 := n2_; have HO_271001 := n3_; have HO_281000 := n4_; have HO_281001 := n5_; have HO284 := n6_; have HO287 := n7_; have BK242 := n8_; have BK261 := n9_; have BK270 := n10_; have BK280 := n11_; have HB := n12_; clear n0_ n1_ n2_ n3_ n4_ n5_ n6_ n7_ n8_ n9_ n10_ n11_ n12_; (try clear hb); (try clear hb2); (try clear hk); (try clear hi)))
                    go_meet
                    case rel => exact ⟨_, ((t279 != t260)), (by first | rfl | (simp; done) | (simp [*]; done)), H', ⟨by have := HJ14.out; first | omega | exact Nat.le_refl _⟩, ⟨by (with_reducible repeat (first | apply Kd.qK | apply Kd.qJ | apply Kd.qN)); exact Kd.qP HO_262000.out (fun _ hk => ⟨hk.1, hk.2.1⟩)⟩, ⟨by (with_reducible repeat (first | apply Kd.qK | apply Kd.qJ | apply Kd.qN)); exact Kd.qP HO_262001.out (fun _ hk => ⟨hk.1, hk.2.1⟩)⟩, ⟨by (with_reducible repeat (first | apply Kd.qK | apply Kd.qJ | apply Kd.qN)); exact Kd.qP HO_271000.out (fun _ hk => ⟨hk.1.1, hk.1.2⟩)⟩, ⟨by (with_reducible repeat (first | apply Kd.qK | apply Kd.qJ | apply Kd.qN)); exact Kd.qP HO_271001.out (fun _ hk => ⟨hk.1.1, hk.1.2⟩)⟩, ⟨by (with_reducible repeat (first | apply Kd.qK | apply Kd.qJ | apply Kd.qN)); exact Kd.qP HO_281000.out (fun _ hk => ⟨hk.1, hk.2.1⟩)⟩, ⟨by (with_reducible repeat (first | apply Kd.qK | apply Kd.qJ | apply Kd.qN)); exact Kd.qP HO_281001.out (fun _ hk => ⟨hk.1, hk.2.1⟩)⟩, ⟨by (with_reducible repeat (first | refine qE ?_ _ | refine qI ?_ | refine qD ?_ _)); exact BK242.out⟩, ⟨by (with_reducible repeat (first | refine qE ?_ _ | refine qI ?_ | refine qD ?_ _)); exact BK261.out⟩, ⟨by (with_reducible repeat (first | refine qE ?_ _ | refine qI ?_ | refine qD ?_ _)); exact BK270.out⟩, ⟨by (with_reducible repeat (first | refine qE ?_ _ | refine qI ?_ | refine qD ?_ _)); exact BK280.out⟩, ⟨by repeat (first | (with_reducible first | exact HB.out | apply qH | apply qA | apply qG | refine qF ?_ GE242.out | refine qF ?_ GE261.out | refine qF ?_ GE270.out | refine qF ?_ GE280.out) | exact HB.out)⟩⟩
                  · replace c81 := Bool.eq_false_iff.mpr c81
                    subst c81
                    have H1 : (laws_FnExactDiskWrite.j1 kj14 a1 a2 t260 true l0_0 l0_1 a0_2 a0_3 t252 t255 t258 t259 t271 t274 t277 t278) = some true := by rw [if_neg (show ¬ (false = true) by decide)] at H; exact H
                    clear H
                    have H := H1
                    clear H1
                    have H' := Aside0.mk H
                    clear H
                    have hnb90 := NB280_242.out
                    have hnc90 := NB242_280.out
                    have hnb91 := NB280_261.out
                    have hnc91 := NB261_280.out
                    have hnb92 := NB280_270.out
                    have hnc92 := NB270_280.out
                    have hcz93_0 : w78.cell? ⟨gb280, 0, none⟩ = some (.slice Ao39 t271.length co39) := (qC BK280.out 0).trans rfl
                    have hcz93_1 : w78.cell? ⟨gb280, 1, none⟩ = some (.slice Ao44 t274.length co44) := (qC BK280.out 1).trans rfl
                    have hcz93_2 : w78.cell? ⟨gb280, 2, none⟩ = some (.int .i64 t277) := (qC BK280.out 2).trans rfl
                    have hcz93_3 : w78.cell? ⟨gb280, 3, none⟩ = some (.int .i64 t278) := (qC BK280.out 3).trans rfl
                    have hfz93_0 := qB BK280.out 0
                    have hfz93_1 := qB BK280.out 1
                    have hfz93_2 := qB BK280.out 2
                    have hfz93_3 := qB BK280.out 3
                    have hnb94 := NB261_242.out
                    have hnc94 := NB242_261.out
                    have hnb95 := NB261_270.out
                    have hnc95 := NB270_261.out
                    have hcz96_0 : w78.cell? ⟨gb261, 0, none⟩ = some (.slice Ao25 t252.length co25) := (qC BK261.out 0).trans rfl
                    have hcz96_1 : w78.cell? ⟨gb261, 1, none⟩ = some (.slice Ao28 t255.length co28) := (qC BK261.out 1).trans rfl
                    have hcz96_2 : w78.cell? ⟨gb261, 2, none⟩ = some (.int .i64 t258) := (qC BK261.out 2).trans rfl
                    have hcz96_3 : w78.cell? ⟨gb261, 3, none⟩ = some (.int .i64 t259) := (qC BK261.out 3).trans rfl
                    have hfz96_0 := qB BK261.out 0
                    have hfz96_1 := qB BK261.out 1
                    have hfz96_2 := qB BK261.out 2
                    have hfz96_3 := qB BK261.out 3
                    go_wp2_with (first | (go_at_call 25; (with_reducible refine (laws_eqDisk.calls kj14 _ _ t271 _ _ t274 t277 t278 _ _ t252 _ _ t255 t258 t259 false _ ?side1 ?side2 ?side3 ?side4 ?side5 ?side6 ?side7 ?side8 A80.out).mono ?_); (case side1 => repeat (first | exact (Kd.qS HO_281000.out).2.2 | (with_reducible refine Kd.qZ ?_ _) | (with_reducible refine Kd.zA ?_ _) | (with_reducible refine Kd.zC ?_))); (case side2 => exact (Kd.qS HO_281000.out).2.1); (case side3 => repeat (first | exact (Kd.qS HO_281001.out).2.2 | (with_reducible refine Kd.qZ ?_ _) | (with_reducible refine Kd.zA ?_ _) | (with_reducible refine Kd.zC ?_))); (case side4 => exact (Kd.qS HO_281001.out).2.1); (case side5 => repeat (first | exact (Kd.qS HO_262000.out).2.2 | (with_reducible refine Kd.qZ ?_ _) | (with_reducible refine Kd.zA ?_ _) | (with_reducible refine Kd.zC ?_))); (case side6 => exact (Kd.qS HO_262000.out).2.1); (case side7 => repeat (first | exact (Kd.qS HO_262001.out).2.2 | (with_reducible refine Kd.qZ ?_ _) | (with_reducible refine Kd.zA ?_ _) | (with_reducible refine Kd.zC ?_))); (case side8 => exact (Kd.qS HO_262001.out).2.1); rintro e w97 ⟨rfl, hb⟩; have n0_ := Aside0.mk (Kd.qR (by (with_reducible repeat (first | apply Kd.qK | apply Kd.qJ | apply Kd.qN)); exact HO_262000.out) hb); have n1_ := Aside0.mk (Kd.qR (by (with_reducible repeat (first | apply Kd.qK | apply Kd.qJ | apply Kd.qN)); exact HO_262001.out) hb); have n2_ := Aside0.mk (Kd.qR (by (with_reducible repeat (first | apply Kd.qK | apply Kd.qJ | apply Kd.qN)); exact HO_271000.out) hb); have n3_ := Aside0.mk (Kd.qR (by (with_reducible repeat (first | apply Kd.qK | apply Kd.qJ | apply Kd.qN)); exact HO_271001.out) hb); have n4_ := Aside0.mk (Kd.qR (by (with_reducible repeat (first | apply Kd.qK | apply Kd.qJ | apply Kd.qN)); exact HO_281000.out) hb); have n5_ := Aside0.mk (Kd.qR (by (with_reducible repeat (first | apply Kd.qK | apply Kd.qJ | apply Kd.qN)); exact HO_281001.out) hb); have n6_ := Aside0.mk (Kd.qR (by (with_reducible repeat (first | apply Kd.qK | apply Kd.qJ | apply Kd.qN)); exact HO284.out) hb); have n7_ := Aside0.mk (Kd.qR (by (with_reducible repeat (first | apply Kd.qK | apply Kd.qJ | apply Kd.qN)); exact HO287.out) hb); have n8_ := Aside0.mk (qL (g := gb242) (o := .cells #[.slice A0_0 l0_0.length c0_0, .slice A0_1 l0_1.length c0_1, .int .i64 a0_2, .int .i64 a0_3] 43 (0, 0)) (by (with_reducible repeat (first | refine qE ?_ _ | refine qI ?_ | refine qD ?_ _)); exact BK242.out) hb); have n9_ := Aside0.mk (qL (g := gb261) (o := .cells #[.slice Ao25 t252.length co25, .slice Ao28 t255.length co28, .int .i64 t258, .int .i64 t259] 26 (0, 0)) (by (with_reducible repeat (first | refine qE ?_ _ | refine qI ?_ | refine qD ?_ _)); exact BK261.out) hb); have n10_ := Aside0.mk (qL (g := gb270) (o := .cells #[.slice Ao32 t262.length co32, .slice Ao36 t265.length co36, .int .i64 t268, .int .i64 t269] 26 (0, 0)) (by (with_reducible repeat (first | refine qE ?_ _ | refine qI ?_ | refine qD ?_ _)); exact BK270.out) hb); have n11_ := Aside0.mk (qL (g := gb280) (o := .cells #[.slice Ao39 t271.length co39, .slice Ao44 t274.length co44, .int .i64 t277, .int .i64 t278] 26 (0, 0)) (by (with_reducible repeat (first | refine qE ?_ _ | refine qI ?_ | refine qD ?_ _)); exact BK280.out) hb); have n12_ := Aside0.mk (qO (by repeat (first | (with_reducible first | exact HB.out | apply qH | apply qA | apply qG | refine qF ?_ GE242.out | refine qF ?_ GE261.out | refine qF ?_ GE270.out | refine qF ?_ GE280.out) | exact HB.out)) hb); clear HO_262000; clear HO_262001; clear HO_271000; clear HO_271001; clear HO_281000; clear HO_281001; clear HO284; clear HO287; clear BK242; clear BK261; clear BK270; clear BK280; clear HB; have HO_262000 := n0_; have HO_262001 := n1_; have HO_271000 := n2_; have HO_271001 := n3_; have HO_281000 := n4_; have HO_281001 := n5_; have HO284 := n6_; have HO287 := n7_; have BK242 := n8_; have BK261 := n9_; have BK270 := n10_; have BK280 := n11_; have HB := n12_; clear n0_ n1_ n2_ n3_ n4_ n5_ n6_ n7_ n8_ n9_ n10_ n11_ n12_; (try clear hb); (try clear hb2); (try clear hk); (try clear hi)))
                    go_meet
                    case rel => exact ⟨_, (true), (by first | rfl | (simp; done) | (simp [*]; done)), H', ⟨by have := HJ14.out; first | omega | exact Nat.le_refl _⟩, ⟨by (with_reducible repeat (first | apply Kd.qK | apply Kd.qJ | apply Kd.qN)); exact Kd.qP HO_262000.out (fun _ hk => ⟨hk.1, hk.2.1⟩)⟩, ⟨by (with_reducible repeat (first | apply Kd.qK | apply Kd.qJ | apply Kd.qN)); exact Kd.qP HO_262001.out (fun _ hk => ⟨hk.1, hk.2.1⟩)⟩, ⟨by (with_reducible repeat (first | apply Kd.qK | apply Kd.qJ | apply Kd.qN)); exact Kd.qP HO_271000.out (fun _ hk => ⟨hk.1.1, hk.1.2⟩)⟩, ⟨by (with_reducible repeat (first | apply Kd.qK | apply Kd.qJ | apply Kd.qN)); exact Kd.qP HO_271001.out (fun _ hk => ⟨hk.1.1, hk.1.2⟩)⟩, ⟨by (with_reducible repeat (first | apply Kd.qK | apply Kd.qJ | apply Kd.qN)); exact Kd.qP HO_281000.out (fun _ hk => ⟨hk.1, hk.2.1⟩)⟩, ⟨by (with_reducible repeat (first | apply Kd.qK | apply Kd.qJ | apply Kd.qN)); exact Kd.qP HO_281001.out (fun _ hk => ⟨hk.1, hk.2.1⟩)⟩, ⟨by (with_reducible repeat (first | refine qE ?_ _ | refine qI ?_ | refine qD ?_ _)); exact BK242.out⟩, ⟨by (with_reducible repeat (first | refine qE ?_ _ | refine qI ?_ | refine qD ?_ _)); exact BK261.out⟩, ⟨by (with_reducible repeat (first | refine qE ?_ _ | refine qI ?_ | refine qD ?_ _)); exact BK270.out⟩, ⟨by (with_reducible repeat (first | refine qE ?_ _ | refine qI ?_ | refine qD ?_ _)); exact BK280.out⟩, ⟨by repeat (first | (with_reducible first | exact HB.out | apply qH | apply qA | apply qG | refine qF ?_ GE242.out | refine qF ?_ GE261.out | refine qF ?_ GE270.out | refine qF ?_ GE280.out) | exact HB.out)⟩⟩
              case rest =>
                clear HC68
                try clear c1
                try clear c2
                try clear p2
                try clear c3
                try clear c4
                try clear c4b0
                try clear c4b1
                try clear c5
                try clear c6
                try clear c7
                try clear c7b0
                try clear c8
                try clear c9
                try clear c10
                try clear c16
                try clear c18
                try clear c23
                try clear c24
                try clear c25
                try clear c26
                try clear c33
                try clear c34
                try clear c40
                try clear c41
                try clear c42
                try clear c46
                try clear c47
                try clear c48
                try clear c49
                try clear c51
                try clear c52
                try clear c55
                try clear c56
                try clear c57
                try clear c59
                try clear c60
                try clear c63
                try clear c66
                try clear c74
                try clear c75
                try clear c76
                try clear c79
                try clear c79b0
                try clear c81
                try clear c82
                try clear c83
                try clear c84
                try clear c86
                try clear c87
                try clear c90
                try clear c91
                try clear c92
                try clear c94
                try clear c95
                try clear hcz17_0
                try clear hcz17_1
                try clear hcz17_2
                try clear hcz17_3
                try clear hcz19_0
                try clear hcz19_1
                try clear hcz19_2
                try clear hcz19_3
                try clear hcz27_0
                try clear hcz27_1
                try clear hcz27_2
                try clear hcz27_3
                try clear hcz29_0
                try clear hcz29_1
                try clear hcz29_2
                try clear hcz29_3
                try clear hcz35_0
                try clear hcz35_1
                try clear hcz35_2
                try clear hcz35_3
                try clear hcz43_0
                try clear hcz43_1
                try clear hcz43_2
                try clear hcz43_3
                try clear hcz50_0
                try clear hcz50_1
                try clear hcz50_2
                try clear hcz50_3
                try clear hcz53_0
                try clear hcz53_1
                try clear hcz53_2
                try clear hcz53_3
                try clear hcz58_0
                try clear hcz58_1
                try clear hcz58_2
                try clear hcz58_3
                try clear hcz61_0
                try clear hcz61_1
                try clear hcz61_2
                try clear hcz61_3
                try clear hcz77_0
                try clear hcz77_1
                try clear hcz77_2
                try clear hcz77_3
                try clear hcz85_0
                try clear hcz85_1
                try clear hcz85_2
                try clear hcz85_3
                try clear hcz88_0
                try clear hcz88_1
                try clear hcz88_2
                try clear hcz88_3
                try clear hcz93_0
                try clear hcz93_1
                try clear hcz93_2
                try clear hcz93_3
                try clear hcz96_0
                try clear hcz96_1
                try clear hcz96_2
                try clear hcz96_3
                try clear hcz9_0
                try clear hcz9_1
                try clear hcz9_2
                try clear hcz9_3
                try clear hfz17_0
                try clear hfz17_1
                try clear hfz17_2
                try clear hfz17_3
                try clear hfz19_0
                try clear hfz19_1
                try clear hfz19_2
                try clear hfz19_3
                try clear hfz27_0
                try clear hfz27_1
                try clear hfz27_2
                try clear hfz27_3
                try clear hfz29_0
                try clear hfz29_1
                try clear hfz29_2
                try clear hfz29_3
                try clear hfz35_0
                try clear hfz35_1
                try clear hfz35_2
                try clear hfz35_3
                try clear hfz43_0
                try clear hfz43_1
                try clear hfz43_2
                try clear hfz43_3
                try clear hfz50_0
                try clear hfz50_1
                try clear hfz50_2
                try clear hfz50_3
                try clear hfz53_0
                try clear hfz53_1
                try clear hfz53_2
                try clear hfz53_3
                try clear hfz58_0
                try clear hfz58_1
                try clear hfz58_2
                try clear hfz58_3
                try clear hfz61_0
                try clear hfz61_1
                try clear hfz61_2
                try clear hfz61_3
                try clear hfz77_0
                try clear hfz77_1
                try clear hfz77_2
                try clear hfz77_3
                try clear hfz85_0
                try clear hfz85_1
                try clear hfz85_2
                try clear hfz85_3
                try clear hfz88_0
                try clear hfz88_1
                try clear hfz88_2
                try clear hfz88_3
                try clear hfz93_0
                try clear hfz93_1
                try clear hfz93_2
                try clear hfz93_3
                try clear hfz96_0
                try clear hfz96_1
                try clear hfz96_2
                try clear hfz96_3
                try clear hfz9_0
                try clear hfz9_1
                try clear hfz9_2
                try clear hfz9_3
                try clear p2
                obtain ⟨kq, x72_67, rfl, HA, HJ67, HO_262000, HO_262001, HO_271000, HO_271001, HO_281000, HO_281001, BK242, BK261, BK270, BK280, HB⟩ := hcut
                have hl271000_67 := (Kd.qS HO_271000.out).1
                rw [hl271000_67] at HO_271000
                (try simp only [hl271000_67])
                (try simp only [hl271000_67] at BK242)
                (try simp only [hl271000_67] at BK261)
                (try simp only [hl271000_67] at BK270)
                (try simp only [hl271000_67] at BK280)
                (try simp only [hl271000_67] at HO_262000)
                (try simp only [hl271000_67] at HO_262001)
                (try simp only [hl271000_67] at HO_271001)
                (try simp only [hl271000_67] at HO_281000)
                (try simp only [hl271000_67] at HO_281001)
                have hl271001_67 := (Kd.qS HO_271001.out).1
                rw [hl271001_67] at HO_271001
                (try simp only [hl271001_67])
                (try simp only [hl271001_67] at BK242)
                (try simp only [hl271001_67] at BK261)
                (try simp only [hl271001_67] at BK270)
                (try simp only [hl271001_67] at BK280)
                (try simp only [hl271001_67] at HO_262000)
                (try simp only [hl271001_67] at HO_262001)
                (try simp only [hl271001_67] at HO_271000)
                (try simp only [hl271001_67] at HO_281000)
                (try simp only [hl271001_67] at HO_281001)
                cases kq with
                | zero => exact absurd HA.out (by simp [laws_FnExactDiskWrite.j1])
                | succ kj67 =>
                  have H := HA.out
                  clear HA
                  simp only [laws_FnExactDiskWrite.j1] at H
                  by_cases c98 : x72_67 = true
                  · subst c98
                    have H1 : (some false) = some true := by rw [if_pos rfl] at H; exact H
                    clear H
                    have H := H1
                    clear H1
                    exact absurd H (by simp)
                  · replace c98 := Bool.eq_false_iff.mpr c98
                    subst c98
                    have H1 : ((laws_markDisk.f kj67 t271 t274 t277 t278 1).bind fun bt295 => ((laws_heldDisk.f kj67 bt295.2.1 bt295.2.2 t277 t278 1).bind fun t298 => (if t298 < 0 then (some false) else (if t298 = bt295.1 then ((laws_toDisk.f kj67 l0_0 l0_1 a0_2 a0_3).bind fun bt299 => ((impl_DiskWrite.f bt299.1 bt299.2.1 bt299.2.2.1 bt299.2.2.2 a1 a2).bind fun bt307 => ((laws_eqDisk.f kj67 bt307.1 bt307.2.1 bt307.2.2.1 bt307.2.2.2.1 t252 t255 t258 t259).bind fun t317 => (if t317 = true then (laws_FnExactDiskWrite.j2 kj67 bt295.1 (bt307.2.2.2.2 != t260) bt295.2.1 bt295.2.2 t277 t278) else (laws_FnExactDiskWrite.j2 kj67 bt295.1 true bt295.2.1 bt295.2.2 t277 t278))))) else (some false))))) = some true := by rw [if_neg (show ¬ (false = true) by decide)] at H; exact H
                    clear H
                    have H := H1
                    clear H1
                    replace H := Option.bind_eq_some_iff.mp H
                    obtain ⟨⟨t295, t296, t297⟩, A990, H⟩ := H
                    replace H : ((laws_heldDisk.f kj67 t296 t297 t277 t278 1).bind fun t298 => (if t298 < 0 then (some false) else (if t298 = t295 then ((laws_toDisk.f kj67 l0_0 l0_1 a0_2 a0_3).bind fun bt299 => ((impl_DiskWrite.f bt299.1 bt299.2.1 bt299.2.2.1 bt299.2.2.2 a1 a2).bind fun bt307 => ((laws_eqDisk.f kj67 bt307.1 bt307.2.1 bt307.2.2.1 bt307.2.2.2.1 t252 t255 t258 t259).bind fun t317 => (if t317 = true then (laws_FnExactDiskWrite.j2 kj67 t295 (bt307.2.2.2.2 != t260) t296 t297 t277 t278) else (laws_FnExactDiskWrite.j2 kj67 t295 true t296 t297 t277 t278))))) else (some false)))) = some true := H
                    have A99 := Aside0.mk A990
                    clear A990
                    replace H := Option.bind_eq_some_iff.mp H
                    obtain ⟨t298, A1000, H⟩ := H
                    replace H : (if t298 < 0 then (some false) else (if t298 = t295 then ((laws_toDisk.f kj67 l0_0 l0_1 a0_2 a0_3).bind fun bt299 => ((impl_DiskWrite.f bt299.1 bt299.2.1 bt299.2.2.1 bt299.2.2.2 a1 a2).bind fun bt307 => ((laws_eqDisk.f kj67 bt307.1 bt307.2.1 bt307.2.2.1 bt307.2.2.2.1 t252 t255 t258 t259).bind fun t317 => (if t317 = true then (laws_FnExactDiskWrite.j2 kj67 t295 (bt307.2.2.2.2 != t260) t296 t297 t277 t278) else (laws_FnExactDiskWrite.j2 kj67 t295 true t296 t297 t277 t278))))) else (some false))) = some true := H
                    have A100 := Aside0.mk A1000
                    clear A1000
                    by_cases c101 : t298 < 0
                    · rw [if_pos c101] at H
                      have c101b0 : decide (t298 < 0) = true := decide_eq_true c101
                      clear c101
                      exact absurd H (by simp)
                    · rw [if_neg c101] at H
                      have c101b0 : decide (t298 < 0) = false := decide_eq_false c101
                      clear c101
                      by_cases c102 : t298 = t295
                      · rw [if_pos c102] at H
                        have c102b0 : (t298 == t295) = true := beq_iff_eq.mpr c102
                        have c102b1 : (t298 != t295) = false := bne_eq_false_iff_eq.mpr c102
                        clear c102
                        replace H := Option.bind_eq_some_iff.mp H
                        obtain ⟨⟨t299, t302, t305, t306⟩, A1030, H⟩ := H
                        replace H : ((impl_DiskWrite.f t299 t302 t305 t306 a1 a2).bind fun bt307 => ((laws_eqDisk.f kj67 bt307.1 bt307.2.1 bt307.2.2.1 bt307.2.2.2.1 t252 t255 t258 t259).bind fun t317 => (if t317 = true then (laws_FnExactDiskWrite.j2 kj67 t295 (bt307.2.2.2.2 != t260) t296 t297 t277 t278) else (laws_FnExactDiskWrite.j2 kj67 t295 true t296 t297 t277 t278)))) = some true := H
                        have A103 := Aside0.mk A1030
                        clear A1030
                        replace H := Option.bind_eq_some_iff.mp H
                        obtain ⟨⟨t307, t310, t313, t314, t315⟩, A1040, H⟩ := H
                        replace H : ((laws_eqDisk.f kj67 t307 t310 t313 t314 t252 t255 t258 t259).bind fun t317 => (if t317 = true then (laws_FnExactDiskWrite.j2 kj67 t295 (t315 != t260) t296 t297 t277 t278) else (laws_FnExactDiskWrite.j2 kj67 t295 true t296 t297 t277 t278))) = some true := H
                        have A104 := Aside0.mk A1040
                        clear A1040
                        have HC105 := Aside0.mk H
                        clear H
                        have hnb106 := NB280_242.out
                        have hnc106 := NB242_280.out
                        have hnb107 := NB280_261.out
                        have hnc107 := NB261_280.out
                        have hnb108 := NB280_270.out
                        have hnc108 := NB270_280.out
                        have hcz109_0 : wc.cell? ⟨gb280, 0, none⟩ = some (.slice Ao39 t271.length co39) := (qC BK280.out 0).trans rfl
                        have hcz109_1 : wc.cell? ⟨gb280, 1, none⟩ = some (.slice Ao44 t274.length co44) := (qC BK280.out 1).trans rfl
                        have hcz109_2 : wc.cell? ⟨gb280, 2, none⟩ = some (.int .i64 t277) := (qC BK280.out 2).trans rfl
                        have hcz109_3 : wc.cell? ⟨gb280, 3, none⟩ = some (.int .i64 t278) := (qC BK280.out 3).trans rfl
                        have hfz109_0 := qB BK280.out 0
                        have hfz109_1 := qB BK280.out 1
                        have hfz109_2 := qB BK280.out 2
                        have hfz109_3 := qB BK280.out 3
                        go_upto_region 27 with (first | ((with_reducible refine qT (f := 26) rfl ?_); refine zD (some 75) rfl rfl Try.func26 (by kernel_rfl) rfl #[.agg #[.slice Ao39 t271.length co39, .slice Ao44 t274.length co44, .int .i64 t277, .int .i64 t278], .int .i64 1] rfl (by (try simp only [List.map_toArray, List.map_cons, List.map_nil]); first | done | rfl | (simp only [List.length_drop, List.length_take]; rfl)) ?_; (with_reducible refine (laws_markDisk.calls kj67 (fun k_ => some k_ = (.slice Ao39 t271.length co39 : Value).ownBlock) (.slice Ao39 t271.length co39) t271 (fun k_ => some k_ = (.slice Ao44 t274.length co44 : Value).ownBlock) (.slice Ao44 t274.length co44) t274 t277 t278 1 t295 t296 t297 w _ ?side1 ?side2 ?side3 A99.out).mono ?_); (case side1 => repeat (first | (with_reducible first | exact HB.out | apply qH | apply qA | apply qG | refine qF ?_ GE242.out | refine qF ?_ GE261.out | refine qF ?_ GE270.out | refine qF ?_ GE280.out) | exact HB.out)); (case side2 => exact Kd.R_tight rfl HO_281000.out); (case side3 => exact Kd.R_tight rfl HO_281001.out); rintro e w110 ⟨rfl, hy0, hy1, hb, hkp⟩; refine ⟨_, rfl, ?_⟩; have n0_ := Aside0.mk (Kd.qP (ok' := fun k_ => some k_ ≠ (.slice Ao32 t292.length co32 : Value).ownBlock ∧ some k_ ≠ (.slice Ao39 t271.length co39 : Value).ownBlock) (Kd.zZ ((Kd.zR HO_262000.out (Kd.zO HO_281001.out) (by decide))) hkp (fun k_ hk_ hs_ => Or.elim hs_ (fun e_ => (hk_.1.2) e_) (fun e_ => (hk_.2) e_))) (fun k_ hk_ => ⟨hk_.1.1.1, hk_.1.1.2⟩)); have n1_ := Aside0.mk (Kd.qP (ok' := fun k_ => some k_ ≠ (.slice Ao36 t293.length co36 : Value).ownBlock ∧ some k_ ≠ (.slice Ao44 t274.length co44 : Value).ownBlock) (Kd.zZ ((Kd.zR HO_262001.out (Kd.zO HO_281000.out) (by decide))) hkp (fun k_ hk_ hs_ => Or.elim hs_ (fun e_ => (hk_.2) e_) (fun e_ => (hk_.1.2) e_))) (fun k_ hk_ => ⟨hk_.1.1.1, hk_.1.1.2⟩)); have n2_ := Aside0.mk (Kd.qP (ok' := fun k_ => some k_ ≠ (.slice Ao25 t252.length co25 : Value).ownBlock ∧ some k_ ≠ (.slice Ao39 t271.length co39 : Value).ownBlock) (Kd.zZ ((Kd.zR HO_271000.out (Kd.zO HO_281001.out) (by decide))) hkp (fun k_ hk_ hs_ => Or.elim hs_ (fun e_ => (hk_.1.2) e_) (fun e_ => (hk_.2) e_))) (fun k_ hk_ => ⟨hk_.1.1.1, hk_.1.1.2⟩)); have n3_ := Aside0.mk (Kd.qP (ok' := fun k_ => some k_ ≠ (.slice Ao28 t255.length co28 : Value).ownBlock ∧ some k_ ≠ (.slice Ao44 t274.length co44 : Value).ownBlock) (Kd.zZ ((Kd.zR HO_271001.out (Kd.zO HO_281000.out) (by decide))) hkp (fun k_ hk_ hs_ => Or.elim hs_ (fun e_ => (hk_.2) e_) (fun e_ => (hk_.1.2) e_))) (fun k_ hk_ => ⟨hk_.1.1.1, hk_.1.1.2⟩)); have n4_ := Aside0.mk (Kd.R_reok rfl hy0 (fun k_ e_ => HO_281000.out.1 k_ e_)); have n5_ := Aside0.mk (Kd.R_reok rfl hy1 (fun k_ e_ => HO_281001.out.1 k_ e_)); have n6_ := Aside0.mk (zX (by (with_reducible repeat (first | refine qE ?_ _ | refine qI ?_ | refine qD ?_ _)); exact BK242.out) hkp (fun hs_ => Or.elim hs_ (fun e_ => (fun e_ => (Kd.R_ne HO_281000.out BK242.out (by decide)) e_) e_) (fun e_ => (fun e_ => (Kd.R_ne HO_281001.out BK242.out (by decide)) e_) e_))); have n7_ := Aside0.mk (zX (by (with_reducible repeat (first | refine qE ?_ _ | refine qI ?_ | refine qD ?_ _)); exact BK261.out) hkp (fun hs_ => Or.elim hs_ (fun e_ => (fun e_ => (Kd.R_ne HO_281000.out BK261.out (by decide)) e_) e_) (fun e_ => (fun e_ => (Kd.R_ne HO_281001.out BK261.out (by decide)) e_) e_))); have n8_ := Aside0.mk (zX (by (with_reducible repeat (first | refine qE ?_ _ | refine qI ?_ | refine qD ?_ _)); exact BK270.out) hkp (fun hs_ => Or.elim hs_ (fun e_ => (fun e_ => (Kd.R_ne HO_281000.out BK270.out (by decide)) e_) e_) (fun e_ => (fun e_ => (Kd.R_ne HO_281001.out BK270.out (by decide)) e_) e_))); have n9_ := Aside0.mk (zX (by (with_reducible repeat (first | refine qE ?_ _ | refine qI ?_ | refine qD ?_ _)); exact BK280.out) hkp (fun hs_ => Or.elim hs_ (fun e_ => (fun e_ => (Kd.R_ne HO_281000.out BK280.out (by decide)) e_) e_) (fun e_ => (fun e_ => (Kd.R_ne HO_281001.out BK280.out (by decide)) e_) e_))); have n10_ := Aside0.mk (hb); clear HO_262000; clear HO_262001; clear HO_271000; clear HO_271001; clear HO_281000; clear HO_281001; clear BK242; clear BK261; clear BK270; clear BK280; clear HB; have HO_262000 := n0_; have HO_262001 := n1_; have HO_271000 := n2_; have HO_271001 := n3_; have HO_281000 := n4_; have HO_281001 := n5_; have BK242 := n6_; have BK261 := n7_; have BK270 := n8_; have BK280 := n9_; have HB := n10_; clear n0_ n1_ n2_ n3_ n4_ n5_ n6_ n7_ n8_ n9_ n10_; (try clear hb); (try clear hkp); (try clear hy0); (try clear hy1); have hcz111_0 : w110.cell? ⟨gb280, 0, none⟩ = some (.slice Ao39 t271.length co39) := (qC BK280.out 0).trans rfl; have hcz111_1 : w110.cell? ⟨gb280, 1, none⟩ = some (.slice Ao44 t274.length co44) := (qC BK280.out 1).trans rfl; have hcz111_2 : w110.cell? ⟨gb280, 2, none⟩ = some (.int .i64 t277) := (qC BK280.out 2).trans rfl; have hcz111_3 : w110.cell? ⟨gb280, 3, none⟩ = some (.int .i64 t278) := (qC BK280.out 3).trans rfl; have hfz111_0 := qB BK280.out 0; have hfz111_1 := qB BK280.out 1; have hfz111_2 := qB BK280.out 2; have hfz111_3 := qB BK280.out 3) | ((with_reducible refine qT (f := 27) rfl ?_); refine zD (some 78) rfl rfl Try.func27 (by kernel_rfl) rfl #[.agg #[.slice Ao39 t296.length co39, .slice Ao44 t297.length co44, .int .i64 t277, .int .i64 t278], .int .i64 1] rfl (by (try simp only [List.map_toArray, List.map_cons, List.map_nil]); first | done | (rw [show t296.length = t271.length from (Kd.qS HO_281000.out).1.symm, show t297.length = t274.length from (Kd.qS HO_281001.out).1.symm] <;> rfl) | rfl | (simp only [List.length_drop, List.length_take]; rfl)) ?_; (with_reducible refine (laws_heldDisk.calls kj67 _ _ t296 _ _ t297 t277 t278 1 t298 _ ?side1 ?side2 ?side3 ?side4 A100.out).mono ?_); (case side1 => repeat (first | exact (Kd.qS HO_281000.out).2.2 | (with_reducible refine Kd.qZ ?_ _) | (with_reducible refine Kd.zA ?_ _) | (with_reducible refine Kd.zC ?_))); (case side2 => rw [show t296.length = t271.length from (Kd.qS HO_281000.out).1.symm]; exact (Kd.qS HO_281000.out).2.1); (case side3 => repeat (first | exact (Kd.qS HO_281001.out).2.2 | (with_reducible refine Kd.qZ ?_ _) | (with_reducible refine Kd.zA ?_ _) | (with_reducible refine Kd.zC ?_))); (case side4 => rw [show t297.length = t274.length from (Kd.qS HO_281001.out).1.symm]; exact (Kd.qS HO_281001.out).2.1); rintro e w112 ⟨rfl, hb⟩; refine ⟨_, rfl, ?_⟩; have n0_ := Aside0.mk (Kd.qR (by (with_reducible repeat (first | apply Kd.qK | apply Kd.qJ | apply Kd.qN)); exact HO_262000.out) hb); have n1_ := Aside0.mk (Kd.qR (by (with_reducible repeat (first | apply Kd.qK | apply Kd.qJ | apply Kd.qN)); exact HO_262001.out) hb); have n2_ := Aside0.mk (Kd.qR (by (with_reducible repeat (first | apply Kd.qK | apply Kd.qJ | apply Kd.qN)); exact HO_271000.out) hb); have n3_ := Aside0.mk (Kd.qR (by (with_reducible repeat (first | apply Kd.qK | apply Kd.qJ | apply Kd.qN)); exact HO_271001.out) hb); have n4_ := Aside0.mk (Kd.qR (by (with_reducible repeat (first | apply Kd.qK | apply Kd.qJ | apply Kd.qN)); exact HO_281000.out) hb); have n5_ := Aside0.mk (Kd.qR (by (with_reducible repeat (first | apply Kd.qK | apply Kd.qJ | apply Kd.qN)); exact HO_281001.out) hb); have n6_ := Aside0.mk (qL (g := gb242) (o := .cells #[.slice A0_0 l0_0.length c0_0, .slice A0_1 l0_1.length c0_1, .int .i64 a0_2, .int .i64 a0_3] 43 (0, 0)) (by (with_reducible repeat (first | refine qE ?_ _ | refine qI ?_ | refine qD ?_ _)); exact BK242.out) hb); have n7_ := Aside0.mk (qL (g := gb261) (o := .cells #[.slice Ao25 t252.length co25, .slice Ao28 t255.length co28, .int .i64 t258, .int .i64 t259] 26 (0, 0)) (by (with_reducible repeat (first | refine qE ?_ _ | refine qI ?_ | refine qD ?_ _)); exact BK261.out) hb); have n8_ := Aside0.mk (qL (g := gb270) (o := .cells #[.slice Ao32 t292.length co32, .slice Ao36 t293.length co36, .int .i64 t268, .int .i64 t269] 26 (0, 0)) (by (with_reducible repeat (first | refine qE ?_ _ | refine qI ?_ | refine qD ?_ _)); exact BK270.out) hb); have n9_ := Aside0.mk (qL (g := gb280) (o := .cells #[.slice Ao39 t271.length co39, .slice Ao44 t274.length co44, .int .i64 t277, .int .i64 t278] 26 (0, 0)) (by (with_reducible repeat (first | refine qE ?_ _ | refine qI ?_ | refine qD ?_ _)); exact BK280.out) hb); have n10_ := Aside0.mk (qO (by repeat (first | (with_reducible first | exact HB.out | apply qH | apply qA | apply qG | refine qF ?_ GE242.out | refine qF ?_ GE261.out | refine qF ?_ GE270.out | refine qF ?_ GE280.out) | exact HB.out)) hb); clear HO_262000; clear HO_262001; clear HO_271000; clear HO_271001; clear HO_281000; clear HO_281001; clear BK242; clear BK261; clear BK270; clear BK280; clear HB; have HO_262000 := n0_; have HO_262001 := n1_; have HO_271000 := n2_; have HO_271001 := n3_; have HO_281000 := n4_; have HO_281001 := n5_; have BK242 := n6_; have BK261 := n7_; have BK270 := n8_; have BK280 := n9_; have HB := n10_; clear n0_ n1_ n2_ n3_ n4_ n5_ n6_ n7_ n8_ n9_ n10_; (try clear hb); (try clear hb2); (try clear hk); (try clear hi); have hnb113 := NB242_261.out; have hnc113 := NB261_242.out; have hnb114 := NB242_270.out; have hnc114 := NB270_242.out; have hcz115_0 : w112.cell? ⟨gb242, 0, none⟩ = some (.slice A0_0 l0_0.length c0_0) := (qC BK242.out 0).trans rfl; have hcz115_1 : w112.cell? ⟨gb242, 1, none⟩ = some (.slice A0_1 l0_1.length c0_1) := (qC BK242.out 1).trans rfl; have hcz115_2 : w112.cell? ⟨gb242, 2, none⟩ = some (.int .i64 a0_2) := (qC BK242.out 2).trans rfl; have hcz115_3 : w112.cell? ⟨gb242, 3, none⟩ = some (.int .i64 a0_3) := (qC BK242.out 3).trans rfl; have hfz115_0 := qB BK242.out 0; have hfz115_1 := qB BK242.out 1; have hfz115_2 := qB BK242.out 2; have hfz115_3 := qB BK242.out 3) | ((with_reducible refine qT (f := 24) rfl ?_); refine zD (some 86) rfl rfl Try.func24 (by kernel_rfl) rfl #[.agg #[.slice A0_0 l0_0.length c0_0, .slice A0_1 l0_1.length c0_1, .int .i64 a0_2, .int .i64 a0_3]] rfl (by (try simp only [List.map_toArray, List.map_cons, List.map_nil]); first | done | rfl | (simp only [List.length_drop, List.length_take]; rfl)) ?_; (with_reducible refine (laws_toDisk.calls kj67 _ _ l0_0 _ _ l0_1 a0_2 a0_3 t299 t302 t305 t306 _ ?side1 ?side2 ?side3 ?side4 A103.out).mono ?_); (case side1 => repeat (first | exact (Kd.qY HR0_0.out HB.out) | (with_reducible refine Kd.qZ ?_ _) | (with_reducible refine Kd.zA ?_ _) | (with_reducible refine Kd.zC ?_))); (case side2 => exact HC0_0.out); (case side3 => repeat (first | exact (Kd.qY HR0_1.out HB.out) | (with_reducible refine Kd.qZ ?_ _) | (with_reducible refine Kd.zA ?_ _) | (with_reducible refine Kd.zC ?_))); (case side4 => exact HC0_1.out); rintro e w116 ⟨v300, v303, rfl, ho0, ho1, hb⟩; refine ⟨_, rfl, ?_⟩; have n0_ := Aside0.mk (Kd.zF (by (with_reducible repeat (first | apply Kd.qK | apply Kd.qJ | apply Kd.qN)); exact HO_262000.out) (Kd.zI ho0) hb); have n1_ := Aside0.mk (Kd.zF (by (with_reducible repeat (first | apply Kd.qK | apply Kd.qJ | apply Kd.qN)); exact HO_262001.out) (Kd.zI ho1) hb); have n2_ := Aside0.mk (Kd.zF (by (with_reducible repeat (first | apply Kd.qK | apply Kd.qJ | apply Kd.qN)); exact HO_271000.out) (Kd.zI ho0) hb); have n3_ := Aside0.mk (Kd.zF (by (with_reducible repeat (first | apply Kd.qK | apply Kd.qJ | apply Kd.qN)); exact HO_271001.out) (Kd.zI ho1) hb); have n4_ := Aside0.mk (Kd.zF (by (with_reducible repeat (first | apply Kd.qK | apply Kd.qJ | apply Kd.qN)); exact HO_281000.out) (Kd.zI ho0) hb); have n5_ := Aside0.mk (Kd.zF (by (with_reducible repeat (first | apply Kd.qK | apply Kd.qJ | apply Kd.qN)); exact HO_281001.out) (Kd.zI ho1) hb); have n6_ := Aside0.mk (Kd.zG (Kd.zJ (Kd.zJ (Kd.zJ ho0 (Kd.R_lt (by (with_reducible repeat (first | apply Kd.qK | apply Kd.qJ | apply Kd.qN)); exact HO_262000.out))) (Kd.R_lt (by (with_reducible repeat (first | apply Kd.qK | apply Kd.qJ | apply Kd.qN)); exact HO_271000.out))) (Kd.R_lt (by (with_reducible repeat (first | apply Kd.qK | apply Kd.qJ | apply Kd.qN)); exact HO_281000.out))) (qM (by repeat (first | (with_reducible first | exact HB.out | apply qH | apply qA | apply qG | refine qF ?_ GE242.out | refine qF ?_ GE261.out | refine qF ?_ GE270.out | refine qF ?_ GE280.out) | exact HB.out)))); have n7_ := Aside0.mk (Kd.zG (Kd.zJ (Kd.zJ (Kd.zJ ho1 (Kd.R_lt (by (with_reducible repeat (first | apply Kd.qK | apply Kd.qJ | apply Kd.qN)); exact HO_262001.out))) (Kd.R_lt (by (with_reducible repeat (first | apply Kd.qK | apply Kd.qJ | apply Kd.qN)); exact HO_271001.out))) (Kd.R_lt (by (with_reducible repeat (first | apply Kd.qK | apply Kd.qJ | apply Kd.qN)); exact HO_281001.out))) (qM (by repeat (first | (with_reducible first | exact HB.out | apply qH | apply qA | apply qG | refine qF ?_ GE242.out | refine qF ?_ GE261.out | refine qF ?_ GE270.out | refine qF ?_ GE280.out) | exact HB.out)))); have n8_ := Aside0.mk (qL (g := gb242) (o := .cells #[.slice A0_0 l0_0.length c0_0, .slice A0_1 l0_1.length c0_1, .int .i64 a0_2, .int .i64 a0_3] 43 (0, 0)) (by (with_reducible repeat (first | refine qE ?_ _ | refine qI ?_ | refine qD ?_ _)); exact BK242.out) hb); have n9_ := Aside0.mk (qL (g := gb261) (o := .cells #[.slice Ao25 t252.length co25, .slice Ao28 t255.length co28, .int .i64 t258, .int .i64 t259] 26 (0, 0)) (by (with_reducible repeat (first | refine qE ?_ _ | refine qI ?_ | refine qD ?_ _)); exact BK261.out) hb); have n10_ := Aside0.mk (qL (g := gb270) (o := .cells #[.slice Ao32 t292.length co32, .slice Ao36 t293.length co36, .int .i64 t268, .int .i64 t269] 26 (0, 0)) (by (with_reducible repeat (first | refine qE ?_ _ | refine qI ?_ | refine qD ?_ _)); exact BK270.out) hb); have n11_ := Aside0.mk (qL (g := gb280) (o := .cells #[.slice Ao39 t271.length co39, .slice Ao44 t274.length co44, .int .i64 t277, .int .i64 t278] 26 (0, 0)) (by (with_reducible repeat (first | refine qE ?_ _ | refine qI ?_ | refine qD ?_ _)); exact BK280.out) hb); have n12_ := Aside0.mk (qO (by repeat (first | (with_reducible first | exact HB.out | apply qH | apply qA | apply qG | refine qF ?_ GE242.out | refine qF ?_ GE261.out | refine qF ?_ GE270.out | refine qF ?_ GE280.out) | exact HB.out)) hb); clear HO_262000; clear HO_262001; clear HO_271000; clear HO_271001; clear HO_281000; clear HO_281001; clear BK242; clear BK261; clear BK270; clear BK280; clear HB; have HO_262000 := n0_; have HO_262001 := n1_; have HO_271000 := n2_; have HO_271001 := n3_; have HO_281000 := n4_; have HO_281001 := n5_; have HO301 := n6_; have HO304 := n7_; have BK242 := n8_; have BK261 := n9_; have BK270 := n10_; have BK280 := n11_; have HB := n12_; clear n0_ n1_ n2_ n3_ n4_ n5_ n6_ n7_ n8_ n9_ n10_ n11_ n12_; (try clear hb); (try clear hb2); (try clear hk); (try clear hi); (try clear ho0); (try clear ho1); obtain ⟨Ao117, co117, eo117⟩ := Kd.zE HO301.out; subst eo117; obtain ⟨Ao118, co118, eo118⟩ := Kd.zE HO304.out; subst eo118) | ((with_reducible refine qT (f := 16) rfl ?_); refine zD (some 89) rfl rfl Try.func16 (by kernel_rfl) rfl #[.agg #[.slice Ao117 t299.length co117, .slice Ao118 t302.length co118, .int .i64 t305, .int .i64 t306], .int .i64 a1, .string a2] rfl (by (try simp only [List.map_toArray, List.map_cons, List.map_nil]); first | done | rfl | (simp only [List.length_drop, List.length_take]; rfl)) ?_; (with_reducible refine (impl_DiskWrite.calls _ _ t299 _ _ t302 t305 t306 a1 a2 t307 t310 t313 t314 t315 _ ?side1 ?side2 ?side3 ?side4 A104.out).mono ?_); (case side1 => repeat (first | exact (Kd.qS HO301.out).2.2 | (with_reducible refine Kd.qZ ?_ _) | (with_reducible refine Kd.zA ?_ _) | (with_reducible refine Kd.zC ?_))); (case side2 => exact (Kd.qS HO301.out).2.1); (case side3 => repeat (first | exact (Kd.qS HO304.out).2.2 | (with_reducible refine Kd.qZ ?_ _) | (with_reducible refine Kd.zA ?_ _) | (with_reducible refine Kd.zC ?_))); (case side4 => exact (Kd.qS HO304.out).2.1); rintro e w119 ⟨v308, v311, rfl, ho0, ho1, hb⟩; refine ⟨_, rfl, ?_⟩; have n0_ := Aside0.mk (Kd.zF (by (with_reducible repeat (first | apply Kd.qK | apply Kd.qJ | apply Kd.qN)); exact HO_262000.out) (Kd.zI ho0) hb); have n1_ := Aside0.mk (Kd.zF (by (with_reducible repeat (first | apply Kd.qK | apply Kd.qJ | apply Kd.qN)); exact HO_262001.out) (Kd.zI ho1) hb); have n2_ := Aside0.mk (Kd.zF (by (with_reducible repeat (first | apply Kd.qK | apply Kd.qJ | apply Kd.qN)); exact HO_271000.out) (Kd.zI ho0) hb); have n3_ := Aside0.mk (Kd.zF (by (with_reducible repeat (first | apply Kd.qK | apply Kd.qJ | apply Kd.qN)); exact HO_271001.out) (Kd.zI ho1) hb); have n4_ := Aside0.mk (Kd.zF (by (with_reducible repeat (first | apply Kd.qK | apply Kd.qJ | apply Kd.qN)); exact HO_281000.out) (Kd.zI ho0) hb); have n5_ := Aside0.mk (Kd.zF (by (with_reducible repeat (first | apply Kd.qK | apply Kd.qJ | apply Kd.qN)); exact HO_281001.out) (Kd.zI ho1) hb); have n6_ := Aside0.mk (Kd.zF (by (with_reducible repeat (first | apply Kd.qK | apply Kd.qJ | apply Kd.qN)); exact HO301.out) (Kd.zI ho0) hb); have n7_ := Aside0.mk (Kd.zF (by (with_reducible repeat (first | apply Kd.qK | apply Kd.qJ | apply Kd.qN)); exact HO304.out) (Kd.zI ho1) hb); have n8_ := Aside0.mk (Kd.zG (Kd.zJ (Kd.zJ (Kd.zJ (Kd.zJ ho0 (Kd.R_lt (by (with_reducible repeat (first | apply Kd.qK | apply Kd.qJ | apply Kd.qN)); exact HO_262000.out))) (Kd.R_lt (by (with_reducible repeat (first | apply Kd.qK | apply Kd.qJ | apply Kd.qN)); exact HO_271000.out))) (Kd.R_lt (by (with_reducible repeat (first | apply Kd.qK | apply Kd.qJ | apply Kd.qN)); exact HO_281000.out))) (Kd.R_lt (by (with_reducible repeat (first | apply Kd.qK | apply Kd.qJ | apply Kd.qN)); exact HO301.out))) (qM (by repeat (first | (with_reducible first | exact HB.out | apply qH | apply qA | apply qG | refine qF ?_ GE242.out | refine qF ?_ GE261.out | refine qF ?_ GE270.out | refine qF ?_ GE280.out) | exact HB.out)))); have n9_ := Aside0.mk (Kd.zG (Kd.zJ (Kd.zJ (Kd.zJ (Kd.zJ ho1 (Kd.R_lt (by (with_reducible repeat (first | apply Kd.qK | apply Kd.qJ | apply Kd.qN)); exact HO_262001.out))) (Kd.R_lt (by (with_reducible repeat (first | apply Kd.qK | apply Kd.qJ | apply Kd.qN)); exact HO_271001.out))) (Kd.R_lt (by (with_reducible repeat (first | apply Kd.qK | apply Kd.qJ | apply Kd.qN)); exact HO_281001.out))) (Kd.R_lt (by (with_reducible repeat (first | apply Kd.qK | apply Kd.qJ | apply Kd.qN)); exact HO304.out))) (qM (by repeat (first | (with_reducible first | exact HB.out | apply qH | apply qA | apply qG | refine qF ?_ GE242.out | refine qF ?_ GE261.out | refine qF ?_ GE270.out | refine qF ?_ GE280.out) | exact HB.out)))); have n10_ := Aside0.mk (qL (g := gb242) (o := .cells #[.slice A0_0 l0_0.length c0_0, .slice A0_1 l0_1.length c0_1, .int .i64 a0_2, .int .i64 a0_3] 43 (0, 0)) (by (with_reducible repeat (first | refine qE ?_ _ | refine qI ?_ | refine qD ?_ _)); exact BK242.out) hb); have n11_ := Aside0.mk (qL (g := gb261) (o := .cells #[.slice Ao25 t252.length co25, .slice Ao28 t255.length co28, .int .i64 t258, .int .i64 t259] 26 (0, 0)) (by (with_reducible repeat (first | refine qE ?_ _ | refine qI ?_ | refine qD ?_ _)); exact BK261.out) hb); have n12_ := Aside0.mk (qL (g := gb270) (o := .cells #[.slice Ao32 t292.length co32, .slice Ao36 t293.length co36, .int .i64 t268, .int .i64 t269] 26 (0, 0)) (by (with_reducible repeat (first | refine qE ?_ _ | refine qI ?_ | refine qD ?_ _)); exact BK270.out) hb); have n13_ := Aside0.mk (qL (g := gb280) (o := .cells #[.slice Ao39 t271.length co39, .slice Ao44 t274.length co44, .int .i64 t277, .int .i64 t278] 26 (0, 0)) (by (with_reducible repeat (first | refine qE ?_ _ | refine qI ?_ | refine qD ?_ _)); exact BK280.out) hb); have n14_ := Aside0.mk (qO (by repeat (first | (with_reducible first | exact HB.out | apply qH | apply qA | apply qG | refine qF ?_ GE242.out | refine qF ?_ GE261.out | refine qF ?_ GE270.out | refine qF ?_ GE280.out) | exact HB.out)) hb); clear HO_262000; clear HO_262001; clear HO_271000; clear HO_271001; clear HO_281000; clear HO_281001; clear HO301; clear HO304; clear BK242; clear BK261; clear BK270; clear BK280; clear HB; have HO_262000 := n0_; have HO_262001 := n1_; have HO_271000 := n2_; have HO_271001 := n3_; have HO_281000 := n4_; have HO_281001 := n5_; have HO301 := n6_; have HO304 := n7_; have HO309 := n8_; have HO312 := n9_; have BK242 := n10_; have BK261 := n11_; have BK270 := n12_; have BK280 := n13_; have HB := n14_; clear n0_ n1_ n2_ n3_ n4_ n5_ n6_ n7_ n8_ n9_ n10_ n11_ n12_ n13_ n14_; (try clear hb); (try clear hb2); (try clear hk); (try clear hi); (try clear ho0); (try clear ho1)) | ((with_reducible refine qX (N := 16) rfl ?_); refine qW ?hg (N := 16) ?hd (cs := #[.slice none 0 0, .slice none 0 0, .int .i64 0, .int .i64 0]) (t := 26) ?hr ?_; (case hd => rfl); (case hg => rfl); (case hr => first | (go_simp; done) | (go_simp; rfl)); intro gb316 hg w120 hbox hb; have n0_ := Aside0.mk (Kd.qR (by (with_reducible repeat (first | apply Kd.qK | apply Kd.qJ | apply Kd.qN)); exact HO_262000.out) hb); have n1_ := Aside0.mk (Kd.qR (by (with_reducible repeat (first | apply Kd.qK | apply Kd.qJ | apply Kd.qN)); exact HO_262001.out) hb); have n2_ := Aside0.mk (Kd.qR (by (with_reducible repeat (first | apply Kd.qK | apply Kd.qJ | apply Kd.qN)); exact HO_271000.out) hb); have n3_ := Aside0.mk (Kd.qR (by (with_reducible repeat (first | apply Kd.qK | apply Kd.qJ | apply Kd.qN)); exact HO_271001.out) hb); have n4_ := Aside0.mk (Kd.qR (by (with_reducible repeat (first | apply Kd.qK | apply Kd.qJ | apply Kd.qN)); exact HO_281000.out) hb); have n5_ := Aside0.mk (Kd.qR (by (with_reducible repeat (first | apply Kd.qK | apply Kd.qJ | apply Kd.qN)); exact HO_281001.out) hb); have n6_ := Aside0.mk (Kd.qR (by (with_reducible repeat (first | apply Kd.qK | apply Kd.qJ | apply Kd.qN)); exact HO301.out) hb); have n7_ := Aside0.mk (Kd.qR (by (with_reducible repeat (first | apply Kd.qK | apply Kd.qJ | apply Kd.qN)); exact HO304.out) hb); have n8_ := Aside0.mk (Kd.qR (by (with_reducible repeat (first | apply Kd.qK | apply Kd.qJ | apply Kd.qN)); exact HO309.out) hb); have n9_ := Aside0.mk (Kd.qR (by (with_reducible repeat (first | apply Kd.qK | apply Kd.qJ | apply Kd.qN)); exact HO312.out) hb); have n10_ := Aside0.mk (qL (g := gb242) (o := .cells #[.slice A0_0 l0_0.length c0_0, .slice A0_1 l0_1.length c0_1, .int .i64 a0_2, .int .i64 a0_3] 43 (0, 0)) (by (with_reducible repeat (first | refine qE ?_ _ | refine qI ?_ | refine qD ?_ _)); exact BK242.out) hb); have n11_ := Aside0.mk (qL (g := gb261) (o := .cells #[.slice Ao25 t252.length co25, .slice Ao28 t255.length co28, .int .i64 t258, .int .i64 t259] 26 (0, 0)) (by (with_reducible repeat (first | refine qE ?_ _ | refine qI ?_ | refine qD ?_ _)); exact BK261.out) hb); have n12_ := Aside0.mk (qL (g := gb270) (o := .cells #[.slice Ao32 t292.length co32, .slice Ao36 t293.length co36, .int .i64 t268, .int .i64 t269] 26 (0, 0)) (by (with_reducible repeat (first | refine qE ?_ _ | refine qI ?_ | refine qD ?_ _)); exact BK270.out) hb); have n13_ := Aside0.mk (qL (g := gb280) (o := .cells #[.slice Ao39 t271.length co39, .slice Ao44 t274.length co44, .int .i64 t277, .int .i64 t278] 26 (0, 0)) (by (with_reducible repeat (first | refine qE ?_ _ | refine qI ?_ | refine qD ?_ _)); exact BK280.out) hb); have n14_ := Aside0.mk (qO (by repeat (first | (with_reducible first | exact HB.out | apply qH | apply qA | apply qG | refine qF ?_ GE242.out | refine qF ?_ GE261.out | refine qF ?_ GE270.out | refine qF ?_ GE280.out) | exact HB.out)) hb); have n15_ := Aside0.mk (hbox); have n16_ := Aside0.mk ((by rw [hg]; exact (qM (by repeat (first | (with_reducible first | exact HB.out | apply qH | apply qA | apply qG | refine qF ?_ GE242.out | refine qF ?_ GE261.out | refine qF ?_ GE270.out | refine qF ?_ GE280.out) | exact HB.out))) : w.heap.size ≤ gb316)); have n17_ := Aside0.mk ((by rw [hg]; exact (qM (by repeat (first | (with_reducible first | exact HB.out | apply qH | apply qA | apply qG | refine qF ?_ GE242.out | refine qF ?_ GE261.out | refine qF ?_ GE270.out | refine qF ?_ GE280.out) | exact HB.out))) : w.heap.size ≤ gb316)); have n18_ := Aside0.mk ((by rw [hg]; exact Nat.ne_of_lt (zB (g := gb242) (o := .cells #[.slice A0_0 l0_0.length c0_0, .slice A0_1 l0_1.length c0_1, .int .i64 a0_2, .int .i64 a0_3] 43 (0, 0)) (by (with_reducible repeat (first | refine qE ?_ _ | refine qI ?_ | refine qD ?_ _)); exact BK242.out)) : gb242 ≠ gb316)); have n19_ := Aside0.mk ((by rw [hg]; exact Nat.ne_of_gt (zB (g := gb242) (o := .cells #[.slice A0_0 l0_0.length c0_0, .slice A0_1 l0_1.length c0_1, .int .i64 a0_2, .int .i64 a0_3] 43 (0, 0)) (by (with_reducible repeat (first | refine qE ?_ _ | refine qI ?_ | refine qD ?_ _)); exact BK242.out)) : gb316 ≠ gb242)); have n20_ := Aside0.mk ((by rw [hg]; exact Nat.ne_of_lt (zB (g := gb261) (o := .cells #[.slice Ao25 t252.length co25, .slice Ao28 t255.length co28, .int .i64 t258, .int .i64 t259] 26 (0, 0)) (by (with_reducible repeat (first | refine qE ?_ _ | refine qI ?_ | refine qD ?_ _)); exact BK261.out)) : gb261 ≠ gb316)); have n21_ := Aside0.mk ((by rw [hg]; exact Nat.ne_of_gt (zB (g := gb261) (o := .cells #[.slice Ao25 t252.length co25, .slice Ao28 t255.length co28, .int .i64 t258, .int .i64 t259] 26 (0, 0)) (by (with_reducible repeat (first | refine qE ?_ _ | refine qI ?_ | refine qD ?_ _)); exact BK261.out)) : gb316 ≠ gb261)); have n22_ := Aside0.mk ((by rw [hg]; exact Nat.ne_of_lt (zB (g := gb270) (o := .cells #[.slice Ao32 t292.length co32, .slice Ao36 t293.length co36, .int .i64 t268, .int .i64 t269] 26 (0, 0)) (by (with_reducible repeat (first | refine qE ?_ _ | refine qI ?_ | refine qD ?_ _)); exact BK270.out)) : gb270 ≠ gb316)); have n23_ := Aside0.mk ((by rw [hg]; exact Nat.ne_of_gt (zB (g := gb270) (o := .cells #[.slice Ao32 t292.length co32, .slice Ao36 t293.length co36, .int .i64 t268, .int .i64 t269] 26 (0, 0)) (by (with_reducible repeat (first | refine qE ?_ _ | refine qI ?_ | refine qD ?_ _)); exact BK270.out)) : gb316 ≠ gb270)); have n24_ := Aside0.mk ((by rw [hg]; exact Nat.ne_of_lt (zB (g := gb280) (o := .cells #[.slice Ao39 t271.length co39, .slice Ao44 t274.length co44, .int .i64 t277, .int .i64 t278] 26 (0, 0)) (by (with_reducible repeat (first | refine qE ?_ _ | refine qI ?_ | refine qD ?_ _)); exact BK280.out)) : gb280 ≠ gb316)); have n25_ := Aside0.mk ((by rw [hg]; exact Nat.ne_of_gt (zB (g := gb280) (o := .cells #[.slice Ao39 t271.length co39, .slice Ao44 t274.length co44, .int .i64 t277, .int .i64 t278] 26 (0, 0)) (by (with_reducible repeat (first | refine qE ?_ _ | refine qI ?_ | refine qD ?_ _)); exact BK280.out)) : gb316 ≠ gb280)); clear HO_262000; clear HO_262001; clear HO_271000; clear HO_271001; clear HO_281000; clear HO_281001; clear HO301; clear HO304; clear HO309; clear HO312; clear BK242; clear BK261; clear BK270; clear BK280; clear HB; have HO_262000 := n0_; have HO_262001 := n1_; have HO_271000 := n2_; have HO_271001 := n3_; have HO_281000 := n4_; have HO_281001 := n5_; have HO301 := n6_; have HO304 := n7_; have HO309 := n8_; have HO312 := n9_; have BK242 := n10_; have BK261 := n11_; have BK270 := n12_; have BK280 := n13_; have HB := n14_; have BK316 := n15_; have GW316 := n16_; have GE316 := n17_; have NB242_316 := n18_; have NB316_242 := n19_; have NB261_316 := n20_; have NB316_261 := n21_; have NB270_316 := n22_; have NB316_270 := n23_; have NB280_316 := n24_; have NB316_280 := n25_; clear n0_ n1_ n2_ n3_ n4_ n5_ n6_ n7_ n8_ n9_ n10_ n11_ n12_ n13_ n14_ n15_ n16_ n17_ n18_ n19_ n20_ n21_ n22_ n23_ n24_ n25_; clear hb hbox hg; obtain ⟨Ao121, co121, eo121⟩ := Kd.zE HO309.out; subst eo121; have hnb122 := NB316_242.out; have hnc122 := NB242_316.out; have hnb123 := NB316_261.out; have hnc123 := NB261_316.out; have hnb124 := NB316_270.out; have hnc124 := NB270_316.out; have hnb125 := NB316_280.out; have hnc125 := NB280_316.out; have hcz126_0 : w120.cell? ⟨gb316, 0, none⟩ = some (.slice none 0 0) := (qC BK316.out 0).trans rfl; have hcz126_1 : w120.cell? ⟨gb316, 1, none⟩ = some (.slice none 0 0) := (qC BK316.out 1).trans rfl; have hcz126_2 : w120.cell? ⟨gb316, 2, none⟩ = some (.int .i64 0) := (qC BK316.out 2).trans rfl; have hcz126_3 : w120.cell? ⟨gb316, 3, none⟩ = some (.int .i64 0) := (qC BK316.out 3).trans rfl; have hfz126_0 := qB BK316.out 0; have hfz126_1 := qB BK316.out 1; have hfz126_2 := qB BK316.out 2; have hfz126_3 := qB BK316.out 3; obtain ⟨Ao127, co127, eo127⟩ := Kd.zE HO312.out; subst eo127))
                        (try simp only [Act.put, List.setIfInBounds_toArray, List.set_cons_zero, List.set_cons_succ])
                        go_cut [100] (fun v100 wc => ∃ (kq : Nat) (x100_104 : Bool), v100 = .bool x100_104 ∧ Aside0 (laws_FnExactDiskWrite.j2 kq t295 x100_104 t296 t297 t277 t278 = some true) ∧ Aside0 (kq ≤ kj67) ∧ Aside0 (Kd.R Kd.string 9 wc w.heap.size (fun k_ => some k_ ≠ ((.slice Ao32 t292.length co32) : Value).ownBlock ∧ some k_ ≠ ((.slice Ao39 t271.length co39) : Value).ownBlock ∧ some k_ ≠ ((.slice Ao121 t307.length co121) : Value).ownBlock) (.slice Ao25 t252.length co25) t252) ∧ Aside0 (Kd.R k70 70 wc w.heap.size (fun k_ => some k_ ≠ ((.slice Ao36 t293.length co36) : Value).ownBlock ∧ some k_ ≠ ((.slice Ao44 t274.length co44) : Value).ownBlock ∧ some k_ ≠ ((.slice Ao127 t310.length co127) : Value).ownBlock) (.slice Ao28 t255.length co28) t255) ∧ Aside0 (Kd.R Kd.string 9 wc w.heap.size (fun k_ => some k_ ≠ ((.slice Ao25 t252.length co25) : Value).ownBlock ∧ some k_ ≠ ((.slice Ao39 t271.length co39) : Value).ownBlock ∧ some k_ ≠ ((.slice Ao121 t307.length co121) : Value).ownBlock) (.slice Ao32 t292.length co32) t292) ∧ Aside0 (Kd.R k70 70 wc w.heap.size (fun k_ => some k_ ≠ ((.slice Ao28 t255.length co28) : Value).ownBlock ∧ some k_ ≠ ((.slice Ao44 t274.length co44) : Value).ownBlock ∧ some k_ ≠ ((.slice Ao127 t310.length co127) : Value).ownBlock) (.slice Ao36 t293.length co36) t293) ∧ Aside0 (Kd.R Kd.string 9 wc w.heap.size (fun k_ => some k_ ≠ ((.slice Ao25 t252.length co25) : Value).ownBlock ∧ some k_ ≠ ((.slice Ao32 t292.length co32) : Value).ownBlock ∧ some k_ ≠ ((.slice Ao121 t307.length co121) : Value).ownBlock) (.slice Ao39 t271.length co39) t296) ∧ Aside0 (Kd.R k70 70 wc w.heap.size (fun k_ => some k_ ≠ ((.slice Ao28 t255.length co28) : Value).ownBlock ∧ some k_ ≠ ((.slice Ao36 t293.length co36) : Value).ownBlock ∧ some k_ ≠ ((.slice Ao127 t310.length co127) : Value).ownBlock) (.slice Ao44 t274.length co44) t297) ∧ Aside0 (Kd.R Kd.string 9 wc w.heap.size (fun k_ => some k_ ≠ ((.slice Ao25 t252.length co25) : Value).ownBlock ∧ some k_ ≠ ((.slice Ao32 t292.length co32) : Value).ownBlock ∧ some k_ ≠ ((.slice Ao39 t271.length co39) : Value).ownBlock) (.slice Ao121 t307.length co121) t307) ∧ Aside0 (Kd.R k70 70 wc w.heap.size (fun k_ => some k_ ≠ ((.slice Ao28 t255.length co28) : Value).ownBlock ∧ some k_ ≠ ((.slice Ao36 t293.length co36) : Value).ownBlock ∧ some k_ ≠ ((.slice Ao44 t274.length co44) : Value).ownBlock) (.slice Ao127 t310.length co127) t310) ∧ Aside0 (wc.heap[gb242]? = some (.cells #[(.slice A0_0 l0_0.length c0_0), (.slice A0_1 l0_1.length c0_1), .int .i64 a0_2, .int .i64 a0_3] 43 (0, 0))) ∧ Aside0 (wc.heap[gb261]? = some (.cells #[(.slice Ao25 t252.length co25), (.slice Ao28 t255.length co28), .int .i64 t258, .int .i64 t259] 26 (0, 0))) ∧ Aside0 (wc.heap[gb270]? = some (.cells #[(.slice Ao32 t292.length co32), (.slice Ao36 t293.length co36), .int .i64 t268, .int .i64 t269] 26 (0, 0))) ∧ Aside0 (wc.heap[gb280]? = some (.cells #[(.slice Ao39 t271.length co39), (.slice Ao44 t274.length co44), .int .i64 t277, .int .i64 t278] 26 (0, 0))) ∧ Aside0 (wc.heap[gb316]? = some (.cells #[(.slice Ao121 t307.length co121), (.slice Ao127 t310.length co127), .int .i64 t313, .int .i64 t314] 26 (0, 0))) ∧ Aside0 (Below w.heap.size w wc))
                        case first =>
                          have H := HC105.out
                          clear HC105
                          replace H := Option.bind_eq_some_iff.mp H
                          obtain ⟨t317, A1280, H⟩ := H
                          replace H : (if t317 = true then (laws_FnExactDiskWrite.j2 kj67 t295 (t315 != t260) t296 t297 t277 t278) else (laws_FnExactDiskWrite.j2 kj67 t295 true t296 t297 t277 t278)) = some true := H
                          have A128 := Aside0.mk A1280
                          clear A1280
                          by_cases c129 : t317 = true
                          · subst c129
                            have H1 : (laws_FnExactDiskWrite.j2 kj67 t295 (t315 != t260) t296 t297 t277 t278) = some true := by rw [if_pos rfl] at H; exact H
                            clear H
                            have H := H1
                            clear H1
                            have H' := Aside0.mk H
                            clear H
                            have hnb130 := NB316_242.out
                            have hnc130 := NB242_316.out
                            have hnb131 := NB316_261.out
                            have hnc131 := NB261_316.out
                            have hnb132 := NB316_270.out
                            have hnc132 := NB270_316.out
                            have hnb133 := NB316_280.out
                            have hnc133 := NB280_316.out
                            have hcz134_0 : w120.cell? ⟨gb316, 0, none⟩ = some (.slice none 0 0) := (qC BK316.out 0).trans rfl
                            have hcz134_1 : w120.cell? ⟨gb316, 1, none⟩ = some (.slice none 0 0) := (qC BK316.out 1).trans rfl
                            have hcz134_2 : w120.cell? ⟨gb316, 2, none⟩ = some (.int .i64 0) := (qC BK316.out 2).trans rfl
                            have hcz134_3 : w120.cell? ⟨gb316, 3, none⟩ = some (.int .i64 0) := (qC BK316.out 3).trans rfl
                            have hfz134_0 := qB BK316.out 0
                            have hfz134_1 := qB BK316.out 1
                            have hfz134_2 := qB BK316.out 2
                            have hfz134_3 := qB BK316.out 3
                            have hnb135 := NB261_242.out
                            have hnc135 := NB242_261.out
                            have hnb136 := NB261_270.out
                            have hnc136 := NB270_261.out
                            have hnb137 := NB261_280.out
                            have hnc137 := NB280_261.out
                            have hcz138_0 : w120.cell? ⟨gb261, 0, none⟩ = some (.slice Ao25 t252.length co25) := (qC BK261.out 0).trans rfl
                            have hcz138_1 : w120.cell? ⟨gb261, 1, none⟩ = some (.slice Ao28 t255.length co28) := (qC BK261.out 1).trans rfl
                            have hcz138_2 : w120.cell? ⟨gb261, 2, none⟩ = some (.int .i64 t258) := (qC BK261.out 2).trans rfl
                            have hcz138_3 : w120.cell? ⟨gb261, 3, none⟩ = some (.int .i64 t259) := (qC BK261.out 3).trans rfl
                            have hfz138_0 := qB BK261.out 0
                            have hfz138_1 := qB BK261.out 1
                            have hfz138_2 := qB BK261.out 2
                            have hfz138_3 := qB BK261.out 3
                            go_wp2_with (first | ((with_reducible refine qT (f := 25) rfl ?_); refine zD (some 94) rfl rfl Try.func25 (by kernel_rfl) rfl #[.agg #[.slice Ao121 t307.length co121, .slice Ao127 t310.length co127, .int .i64 t313, .int .i64 t314], .agg #[.slice Ao25 t252.length co25, .slice Ao28 t255.length co28, .int .i64 t258, .int .i64 t259]] rfl (by (try simp only [List.map_toArray, List.map_cons, List.map_nil]); first | done | rfl | (simp only [List.length_drop, List.length_take]; rfl)) ?_; (with_reducible refine (laws_eqDisk.calls kj67 _ _ t307 _ _ t310 t313 t314 _ _ t252 _ _ t255 t258 t259 true _ ?side1 ?side2 ?side3 ?side4 ?side5 ?side6 ?side7 ?side8 A128.out).mono ?_); (case side1 => refine (Kd.qS (e := 9) (base := w.heap.size) (ok := fun k_ => ((((True ∧ some k_ ≠ (.slice Ao25 t252.length co25 : Value).ownBlock) ∧ some k_ ≠ (.slice Ao32 t292.length co32 : Value).ownBlock) ∧ some k_ ≠ (.slice Ao39 t271.length co39 : Value).ownBlock) ∧ some k_ ≠ (.slice Ao117 t299.length co117 : Value).ownBlock)) (n := t307.length) (c := co121) ?_).2.2; exact (by (with_reducible repeat (first | apply Kd.qK | apply Kd.qJ | apply Kd.qN)); exact (Kd.qP (Kd.R_far (p := ⟨gb316, 3, none⟩) (Kd.R_far (p := ⟨gb316, 2, none⟩) (Kd.R_far (p := ⟨gb316, 1, none⟩) (Kd.R_far (p := ⟨gb316, 0, none⟩) (Kd.qV HO309.out BK316.out (by decide)) (fun _ hk => hk.2) (.slice Ao121 t307.length co121)) (fun _ hk => hk.2) (.slice Ao127 t310.length co127)) (fun _ hk => hk.2) (.int .i64 t313)) (fun _ hk => hk.2) (.int .i64 t314)) (fun _ h_ => h_.1)))); (case side2 => exact (Kd.qS HO309.out).2.1); (case side3 => refine (Kd.qS (e := 70) (base := w.heap.size) (ok := fun k_ => ((((True ∧ some k_ ≠ (.slice Ao28 t255.length co28 : Value).ownBlock) ∧ some k_ ≠ (.slice Ao36 t293.length co36 : Value).ownBlock) ∧ some k_ ≠ (.slice Ao44 t274.length co44 : Value).ownBlock) ∧ some k_ ≠ (.slice Ao118 t302.length co118 : Value).ownBlock)) (n := t310.length) (c := co127) ?_).2.2; exact (by (with_reducible repeat (first | apply Kd.qK | apply Kd.qJ | apply Kd.qN)); exact (Kd.qP (Kd.R_far (p := ⟨gb316, 3, none⟩) (Kd.R_far (p := ⟨gb316, 2, none⟩) (Kd.R_far (p := ⟨gb316, 1, none⟩) (Kd.R_far (p := ⟨gb316, 0, none⟩) (Kd.qV HO312.out BK316.out (by decide)) (fun _ hk => hk.2) (.slice Ao121 t307.length co121)) (fun _ hk => hk.2) (.slice Ao127 t310.length co127)) (fun _ hk => hk.2) (.int .i64 t313)) (fun _ hk => hk.2) (.int .i64 t314)) (fun _ h_ => h_.1)))); (case side4 => exact (Kd.qS HO312.out).2.1); (case side5 => refine (Kd.qS (e := 9) (base := w.heap.size) (ok := fun k_ => (((some k_ ≠ (.slice Ao32 t292.length co32 : Value).ownBlock ∧ some k_ ≠ (.slice Ao39 t271.length co39 : Value).ownBlock) ∧ some k_ ≠ (.slice Ao117 t299.length co117 : Value).ownBlock) ∧ some k_ ≠ (.slice Ao121 t307.length co121 : Value).ownBlock)) (n := t252.length) (c := co25) ?_).2.2; exact (by (with_reducible repeat (first | apply Kd.qK | apply Kd.qJ | apply Kd.qN)); exact (Kd.qP (Kd.R_far (p := ⟨gb316, 3, none⟩) (Kd.R_far (p := ⟨gb316, 2, none⟩) (Kd.R_far (p := ⟨gb316, 1, none⟩) (Kd.R_far (p := ⟨gb316, 0, none⟩) (Kd.qV HO_262000.out BK316.out (by decide)) (fun _ hk => hk.2) (.slice Ao121 t307.length co121)) (fun _ hk => hk.2) (.slice Ao127 t310.length co127)) (fun _ hk => hk.2) (.int .i64 t313)) (fun _ hk => hk.2) (.int .i64 t314)) (fun _ h_ => h_.1)))); (case side6 => exact (Kd.qS HO_262000.out).2.1); (case side7 => refine (Kd.qS (e := 70) (base := w.heap.size) (ok := fun k_ => (((some k_ ≠ (.slice Ao36 t293.length co36 : Value).ownBlock ∧ some k_ ≠ (.slice Ao44 t274.length co44 : Value).ownBlock) ∧ some k_ ≠ (.slice Ao118 t302.length co118 : Value).ownBlock) ∧ some k_ ≠ (.slice Ao127 t310.length co127 : Value).ownBlock)) (n := t255.length) (c := co28) ?_).2.2; exact (by (with_reducible repeat (first | apply Kd.qK | apply Kd.qJ | apply Kd.qN)); exact (Kd.qP (Kd.R_far (p := ⟨gb316, 3, none⟩) (Kd.R_far (p := ⟨gb316, 2, none⟩) (Kd.R_far (p := ⟨gb316, 1, none⟩) (Kd.R_far (p := ⟨gb316, 0, none⟩) (Kd.qV HO_262001.out BK316.out (by decide)) (fun _ hk => hk.2) (.slice Ao121 t307.length co121)) (fun _ hk => hk.2) (.slice Ao127 t310.length co127)) (fun _ hk => hk.2) (.int .i64 t313)) (fun _ hk => hk.2) (.int .i64 t314)) (fun _ h_ => h_.1)))); (case side8 => exact (Kd.qS HO_262001.out).2.1); rintro e w139 ⟨rfl, hb⟩; refine ⟨_, rfl, ?_⟩; have n0_ := Aside0.mk (Kd.qR (by (with_reducible repeat (first | apply Kd.qK | apply Kd.qJ | apply Kd.qN)); exact (Kd.qP (Kd.R_far (p := ⟨gb316, 3, none⟩) (Kd.R_far (p := ⟨gb316, 2, none⟩) (Kd.R_far (p := ⟨gb316, 1, none⟩) (Kd.R_far (p := ⟨gb316, 0, none⟩) (Kd.qV HO_262000.out BK316.out (by decide)) (fun _ hk => hk.2) (.slice Ao121 t307.length co121)) (fun _ hk => hk.2) (.slice Ao127 t310.length co127)) (fun _ hk => hk.2) (.int .i64 t313)) (fun _ hk => hk.2) (.int .i64 t314)) (fun _ h_ => h_.1))) hb); have n1_ := Aside0.mk (Kd.qR (by (with_reducible repeat (first | apply Kd.qK | apply Kd.qJ | apply Kd.qN)); exact (Kd.qP (Kd.R_far (p := ⟨gb316, 3, none⟩) (Kd.R_far (p := ⟨gb316, 2, none⟩) (Kd.R_far (p := ⟨gb316, 1, none⟩) (Kd.R_far (p := ⟨gb316, 0, none⟩) (Kd.qV HO_262001.out BK316.out (by decide)) (fun _ hk => hk.2) (.slice Ao121 t307.length co121)) (fun _ hk => hk.2) (.slice Ao127 t310.length co127)) (fun _ hk => hk.2) (.int .i64 t313)) (fun _ hk => hk.2) (.int .i64 t314)) (fun _ h_ => h_.1))) hb); have n2_ := Aside0.mk (Kd.qR (by (with_reducible repeat (first | apply Kd.qK | apply Kd.qJ | apply Kd.qN)); exact (Kd.qP (Kd.R_far (p := ⟨gb316, 3, none⟩) (Kd.R_far (p := ⟨gb316, 2, none⟩) (Kd.R_far (p := ⟨gb316, 1, none⟩) (Kd.R_far (p := ⟨gb316, 0, none⟩) (Kd.qV HO_271000.out BK316.out (by decide)) (fun _ hk => hk.2) (.slice Ao121 t307.length co121)) (fun _ hk => hk.2) (.slice Ao127 t310.length co127)) (fun _ hk => hk.2) (.int .i64 t313)) (fun _ hk => hk.2) (.int .i64 t314)) (fun _ h_ => h_.1))) hb); have n3_ := Aside0.mk (Kd.qR (by (with_reducible repeat (first | apply Kd.qK | apply Kd.qJ | apply Kd.qN)); exact (Kd.qP (Kd.R_far (p := ⟨gb316, 3, none⟩) (Kd.R_far (p := ⟨gb316, 2, none⟩) (Kd.R_far (p := ⟨gb316, 1, none⟩) (Kd.R_far (p := ⟨gb316, 0, none⟩) (Kd.qV HO_271001.out BK316.out (by decide)) (fun _ hk => hk.2) (.slice Ao121 t307.length co121)) (fun _ hk => hk.2) (.slice Ao127 t310.length co127)) (fun _ hk => hk.2) (.int .i64 t313)) (fun _ hk => hk.2) (.int .i64 t314)) (fun _ h_ => h_.1))) hb); have n4_ := Aside0.mk (Kd.qR (by (with_reducible repeat (first | apply Kd.qK | apply Kd.qJ | apply Kd.qN)); exact (Kd.qP (Kd.R_far (p := ⟨gb316, 3, none⟩) (Kd.R_far (p := ⟨gb316, 2, none⟩) (Kd.R_far (p := ⟨gb316, 1, none⟩) (Kd.R_far (p := ⟨gb316, 0, none⟩) (Kd.qV HO_281000.out BK316.out (by decide)) (fun _ hk => hk.2) (.slice Ao121 t307.length co121)) (fun _ hk => hk.2) (.slice Ao127 t310.length co127)) (fun _ hk => hk.2) (.int .i64 t313)) (fun _ hk => hk.2) (.int .i64 t314)) (fun _ h_ => h_.1))) hb); have n5_ := Aside0.mk (Kd.qR (by (with_reducible repeat (first | apply Kd.qK | apply Kd.qJ | apply Kd.qN)); exact (Kd.qP (Kd.R_far (p := ⟨gb316, 3, none⟩) (Kd.R_far (p := ⟨gb316, 2, none⟩) (Kd.R_far (p := ⟨gb316, 1, none⟩) (Kd.R_far (p := ⟨gb316, 0, none⟩) (Kd.qV HO_281001.out BK316.out (by decide)) (fun _ hk => hk.2) (.slice Ao121 t307.length co121)) (fun _ hk => hk.2) (.slice Ao127 t310.length co127)) (fun _ hk => hk.2) (.int .i64 t313)) (fun _ hk => hk.2) (.int .i64 t314)) (fun _ h_ => h_.1))) hb); have n6_ := Aside0.mk (Kd.qR (by (with_reducible repeat (first | apply Kd.qK | apply Kd.qJ | apply Kd.qN)); exact (Kd.qP (Kd.R_far (p := ⟨gb316, 3, none⟩) (Kd.R_far (p := ⟨gb316, 2, none⟩) (Kd.R_far (p := ⟨gb316, 1, none⟩) (Kd.R_far (p := ⟨gb316, 0, none⟩) (Kd.qV HO301.out BK316.out (by decide)) (fun _ hk => hk.2) (.slice Ao121 t307.length co121)) (fun _ hk => hk.2) (.slice Ao127 t310.length co127)) (fun _ hk => hk.2) (.int .i64 t313)) (fun _ hk => hk.2) (.int .i64 t314)) (fun _ h_ => h_.1))) hb); have n7_ := Aside0.mk (Kd.qR (by (with_reducible repeat (first | apply Kd.qK | apply Kd.qJ | apply Kd.qN)); exact (Kd.qP (Kd.R_far (p := ⟨gb316, 3, none⟩) (Kd.R_far (p := ⟨gb316, 2, none⟩) (Kd.R_far (p := ⟨gb316, 1, none⟩) (Kd.R_far (p := ⟨gb316, 0, none⟩) (Kd.qV HO304.out BK316.out (by decide)) (fun _ hk => hk.2) (.slice Ao121 t307.length co121)) (fun _ hk => hk.2) (.slice Ao127 t310.length co127)) (fun _ hk => hk.2) (.int .i64 t313)) (fun _ hk => hk.2) (.int .i64 t314)) (fun _ h_ => h_.1))) hb); have n8_ := Aside0.mk (Kd.qR (by (with_reducible repeat (first | apply Kd.qK | apply Kd.qJ | apply Kd.qN)); exact (Kd.qP (Kd.R_far (p := ⟨gb316, 3, none⟩) (Kd.R_far (p := ⟨gb316, 2, none⟩) (Kd.R_far (p := ⟨gb316, 1, none⟩) (Kd.R_far (p := ⟨gb316, 0, none⟩) (Kd.qV HO309.out BK316.out (by decide)) (fun _ hk => hk.2) (.slice Ao121 t307.length co121)) (fun _ hk => hk.2) (.slice Ao127 t310.length co127)) (fun _ hk => hk.2) (.int .i64 t313)) (fun _ hk => hk.2) (.int .i64 t314)) (fun _ h_ => h_.1))) hb); have n9_ := Aside0.mk (Kd.qR (by (with_reducible repeat (first | apply Kd.qK | apply Kd.qJ | apply Kd.qN)); exact (Kd.qP (Kd.R_far (p := ⟨gb316, 3, none⟩) (Kd.R_far (p := ⟨gb316, 2, none⟩) (Kd.R_far (p := ⟨gb316, 1, none⟩) (Kd.R_far (p := ⟨gb316, 0, none⟩) (Kd.qV HO312.out BK316.out (by decide)) (fun _ hk => hk.2) (.slice Ao121 t307.length co121)) (fun _ hk => hk.2) (.slice Ao127 t310.length co127)) (fun _ hk => hk.2) (.int .i64 t313)) (fun _ hk => hk.2) (.int .i64 t314)) (fun _ h_ => h_.1))) hb); have n10_ := Aside0.mk (qL (g := gb242) (o := .cells #[.slice A0_0 l0_0.length c0_0, .slice A0_1 l0_1.length c0_1, .int .i64 a0_2, .int .i64 a0_3] 43 (0, 0)) (by (with_reducible repeat (first | refine qE ?_ _ | refine qI ?_ | refine qD ?_ _)); refine qQ ?_ NB242_316.out _; (with_reducible repeat (first | refine qE ?_ _ | refine qI ?_ | refine qD ?_ _)); refine qQ ?_ NB242_316.out _; (with_reducible repeat (first | refine qE ?_ _ | refine qI ?_ | refine qD ?_ _)); refine qQ ?_ NB242_316.out _; (with_reducible repeat (first | refine qE ?_ _ | refine qI ?_ | refine qD ?_ _)); refine qQ ?_ NB242_316.out _; (with_reducible repeat (first | refine qE ?_ _ | refine qI ?_ | refine qD ?_ _)); exact BK242.out) hb); have n11_ := Aside0.mk (qL (g := gb261) (o := .cells #[.slice Ao25 t252.length co25, .slice Ao28 t255.length co28, .int .i64 t258, .int .i64 t259] 26 (0, 0)) (by (with_reducible repeat (first | refine qE ?_ _ | refine qI ?_ | refine qD ?_ _)); refine qQ ?_ NB261_316.out _; (with_reducible repeat (first | refine qE ?_ _ | refine qI ?_ | refine qD ?_ _)); refine qQ ?_ NB261_316.out _; (with_reducible repeat (first | refine qE ?_ _ | refine qI ?_ | refine qD ?_ _)); refine qQ ?_ NB261_316.out _; (with_reducible repeat (first | refine qE ?_ _ | refine qI ?_ | refine qD ?_ _)); refine qQ ?_ NB261_316.out _; (with_reducible repeat (first | refine qE ?_ _ | refine qI ?_ | refine qD ?_ _)); exact BK261.out) hb); have n12_ := Aside0.mk (qL (g := gb270) (o := .cells #[.slice Ao32 t292.length co32, .slice Ao36 t293.length co36, .int .i64 t268, .int .i64 t269] 26 (0, 0)) (by (with_reducible repeat (first | refine qE ?_ _ | refine qI ?_ | refine qD ?_ _)); refine qQ ?_ NB270_316.out _; (with_reducible repeat (first | refine qE ?_ _ | refine qI ?_ | refine qD ?_ _)); refine qQ ?_ NB270_316.out _; (with_reducible repeat (first | refine qE ?_ _ | refine qI ?_ | refine qD ?_ _)); refine qQ ?_ NB270_316.out _; (with_reducible repeat (first | refine qE ?_ _ | refine qI ?_ | refine qD ?_ _)); refine qQ ?_ NB270_316.out _; (with_reducible repeat (first | refine qE ?_ _ | refine qI ?_ | refine qD ?_ _)); exact BK270.out) hb); have n13_ := Aside0.mk (qL (g := gb280) (o := .cells #[.slice Ao39 t271.length co39, .slice Ao44 t274.length co44, .int .i64 t277, .int .i64 t278] 26 (0, 0)) (by (with_reducible repeat (first | refine qE ?_ _ | refine qI ?_ | refine qD ?_ _)); refine qQ ?_ NB280_316.out _; (with_reducible repeat (first | refine qE ?_ _ | refine qI ?_ | refine qD ?_ _)); refine qQ ?_ NB280_316.out _; (with_reducible repeat (first | refine qE ?_ _ | refine qI ?_ | refine qD ?_ _)); refine qQ ?_ NB280_316.out _; (with_reducible repeat (first | refine qE ?_ _ | refine qI ?_ | refine qD ?_ _)); refine qQ ?_ NB280_316.out _; (with_reducible repeat (first | refine qE ?_ _ | refine qI ?_ | refine qD ?_ _)); exact BK280.out) hb); have n14_ := Aside0.mk (qL (g := gb316) (o := .cells #[.slice Ao121 t307.length co121, .slice Ao127 t310.length co127, .int .i64 t313, .int .i64 t314] 26 (0, 0)) (by (with_reducible repeat (first | refine qE ?_ _ | refine qI ?_ | refine qD ?_ _)); refine qU (cs := #[.slice Ao121 t307.length co121, .slice Ao127 t310.length co127, .int .i64 t313, .int .i64 0]) ?_ 3 _ rfl; (with_reducible repeat (first | refine qE ?_ _ | refine qI ?_ | refine qD ?_ _)); refine qU (cs := #[.slice Ao121 t307.length co121, .slice Ao127 t310.length co127, .int .i64 0, .int .i64 0]) ?_ 2 _ rfl; (with_reducible repeat (first | refine qE ?_ _ | refine qI ?_ | refine qD ?_ _)); refine qU (cs := #[.slice Ao121 t307.length co121, .slice none 0 0, .int .i64 0, .int .i64 0]) ?_ 1 _ rfl; (with_reducible repeat (first | refine qE ?_ _ | refine qI ?_ | refine qD ?_ _)); refine qU (cs := #[.slice none 0 0, .slice none 0 0, .int .i64 0, .int .i64 0]) ?_ 0 _ rfl; (with_reducible repeat (first | refine qE ?_ _ | refine qI ?_ | refine qD ?_ _)); exact BK316.out) hb); have n15_ := Aside0.mk (qO (by repeat (first | (with_reducible first | exact HB.out | apply qH | apply qA | apply qG | refine qF ?_ GE242.out | refine qF ?_ GE261.out | refine qF ?_ GE270.out | refine qF ?_ GE280.out | refine qF ?_ GE316.out) | exact HB.out)) hb); clear HO_262000; clear HO_262001; clear HO_271000; clear HO_271001; clear HO_281000; clear HO_281001; clear HO301; clear HO304; clear HO309; clear HO312; clear BK242; clear BK261; clear BK270; clear BK280; clear BK316; clear HB; have HO_262000 := n0_; have HO_262001 := n1_; have HO_271000 := n2_; have HO_271001 := n3_; have HO_281000 := n4_; have HO_281001 := n5_; have HO301 := n6_; have HO304 := n7_; have HO309 := n8_; have HO312 := n9_; have BK242 := n10_; have BK261 := n11_; have BK270 := n12_; have BK280 := n13_; have BK316 := n14_; have HB := n15_; clear n0_ n1_ n2_ n3_ n4_ n5_ n6_ n7_ n8_ n9_ n10_ n11_ n12_ n13_ n14_ n15_; (try clear hb); (try clear hb2); (try clear hk); (try clear hi)))
                            go_meet
                            case rel => exact ⟨_, ((t315 != t260)), (by first | rfl | (simp; done) | (simp [*]; done)), H', ⟨by have := HJ14.out; have := HJ67.out; first | omega | exact Nat.le_refl _⟩, ⟨by (try simp only [hl271000_67]); (try simp only [hl271001_67]); (with_reducible repeat (first | apply Kd.qK | apply Kd.qJ | apply Kd.qN)); exact Kd.qP HO_262000.out (fun _ hk => ⟨hk.1.1.1, ⟨hk.1.1.2, hk.2⟩⟩)⟩, ⟨by (try simp only [hl271000_67]); (try simp only [hl271001_67]); (with_reducible repeat (first | apply Kd.qK | apply Kd.qJ | apply Kd.qN)); exact Kd.qP HO_262001.out (fun _ hk => ⟨hk.1.1.1, ⟨hk.1.1.2, hk.2⟩⟩)⟩, ⟨by (try simp only [hl271000_67]); (try simp only [hl271001_67]); (with_reducible repeat (first | apply Kd.qK | apply Kd.qJ | apply Kd.qN)); exact Kd.qP HO_271000.out (fun _ hk => ⟨hk.1.1.1, ⟨hk.1.1.2, hk.2⟩⟩)⟩, ⟨by (try simp only [hl271000_67]); (try simp only [hl271001_67]); (with_reducible repeat (first | apply Kd.qK | apply Kd.qJ | apply Kd.qN)); exact Kd.qP HO_271001.out (fun _ hk => ⟨hk.1.1.1, ⟨hk.1.1.2, hk.2⟩⟩)⟩, ⟨by (try simp only [hl271000_67]); (try simp only [hl271001_67]); (with_reducible repeat (first | apply Kd.qK | apply Kd.qJ | apply Kd.qN)); exact Kd.qP HO_281000.out (fun _ hk => ⟨hk.1.1.1, ⟨hk.1.1.2, hk.2⟩⟩)⟩, ⟨by (try simp only [hl271000_67]); (try simp only [hl271001_67]); (with_reducible repeat (first | apply Kd.qK | apply Kd.qJ | apply Kd.qN)); exact Kd.qP HO_281001.out (fun _ hk => ⟨hk.1.1.1, ⟨hk.1.1.2, hk.2⟩⟩)⟩, ⟨by (try simp only [hl271000_67]); (try simp only [hl271001_67]); (with_reducible repeat (first | apply Kd.qK | apply Kd.qJ | apply Kd.qN)); exact Kd.qP HO309.out (fun _ hk => ⟨hk.1.1.1.2, ⟨hk.1.1.2, hk.1.2⟩⟩)⟩, ⟨by (try simp only [hl271000_67]); (try simp only [hl271001_67]); (with_reducible repeat (first | apply Kd.qK | apply Kd.qJ | apply Kd.qN)); exact Kd.qP HO312.out (fun _ hk => ⟨hk.1.1.1.2, ⟨hk.1.1.2, hk.1.2⟩⟩)⟩, ⟨by (try simp only [hl271000_67]); (try simp only [hl271001_67]); (with_reducible repeat (first | refine qE ?_ _ | refine qI ?_ | refine qD ?_ _)); exact BK242.out⟩, ⟨by (try simp only [hl271000_67]); (try simp only [hl271001_67]); (with_reducible repeat (first | refine qE ?_ _ | refine qI ?_ | refine qD ?_ _)); exact BK261.out⟩, ⟨by (try simp only [hl271000_67]); (try simp only [hl271001_67]); (with_reducible repeat (first | refine qE ?_ _ | refine qI ?_ | refine qD ?_ _)); exact BK270.out⟩, ⟨by (try simp only [hl271000_67]); (try simp only [hl271001_67]); (with_reducible repeat (first | refine qE ?_ _ | refine qI ?_ | refine qD ?_ _)); exact BK280.out⟩, ⟨by (try simp only [hl271000_67]); (try simp only [hl271001_67]); (with_reducible repeat (first | refine qE ?_ _ | refine qI ?_ | refine qD ?_ _)); exact BK316.out⟩, ⟨by repeat (first | (with_reducible first | exact HB.out | apply qH | apply qA | apply qG | refine qF ?_ GE242.out | refine qF ?_ GE261.out | refine qF ?_ GE270.out | refine qF ?_ GE280.out | refine qF ?_ GE316.out) | exact HB.out)⟩⟩
                          · replace c129 := Bool.eq_false_iff.mpr c129
                            subst c129
                            have H1 : (laws_FnExactDiskWrite.j2 kj67 t295 true t296 t297 t277 t278) = some true := by rw [if_neg (show ¬ (false = true) by decide)] at H; exact H
                            clear H
                            have H := H1
                            clear H1
                            have H' := Aside0.mk H
                            clear H
                            have hnb140 := NB316_242.out
                            have hnc140 := NB242_316.out
                            have hnb141 := NB316_261.out
                            have hnc141 := NB261_316.out
                            have hnb142 := NB316_270.out
                            have hnc142 := NB270_316.out
                            have hnb143 := NB316_280.out
                            have hnc143 := NB280_316.out
                            have hcz144_0 : w120.cell? ⟨gb316, 0, none⟩ = some (.slice none 0 0) := (qC BK316.out 0).trans rfl
                            have hcz144_1 : w120.cell? ⟨gb316, 1, none⟩ = some (.slice none 0 0) := (qC BK316.out 1).trans rfl
                            have hcz144_2 : w120.cell? ⟨gb316, 2, none⟩ = some (.int .i64 0) := (qC BK316.out 2).trans rfl
                            have hcz144_3 : w120.cell? ⟨gb316, 3, none⟩ = some (.int .i64 0) := (qC BK316.out 3).trans rfl
                            have hfz144_0 := qB BK316.out 0
                            have hfz144_1 := qB BK316.out 1
                            have hfz144_2 := qB BK316.out 2
                            have hfz144_3 := qB BK316.out 3
                            have hnb145 := NB261_242.out
                            have hnc145 := NB242_261.out
                            have hnb146 := NB261_270.out
                            have hnc146 := NB270_261.out
                            have hnb147 := NB261_280.out
                            have hnc147 := NB280_261.out
                            have hcz148_0 : w120.cell? ⟨gb261, 0, none⟩ = some (.slice Ao25 t252.length co25) := (qC BK261.out 0).trans rfl
                            have hcz148_1 : w120.cell? ⟨gb261, 1, none⟩ = some (.slice Ao28 t255.length co28) := (qC BK261.out 1).trans rfl
                            have hcz148_2 : w120.cell? ⟨gb261, 2, none⟩ = some (.int .i64 t258) := (qC BK261.out 2).trans rfl
                            have hcz148_3 : w120.cell? ⟨gb261, 3, none⟩ = some (.int .i64 t259) := (qC BK261.out 3).trans rfl
                            have hfz148_0 := qB BK261.out 0
                            have hfz148_1 := qB BK261.out 1
                            have hfz148_2 := qB BK261.out 2
                            have hfz148_3 := qB BK261.out 3
                            go_wp2_with (first | ((with_reducible refine qT (f := 25) rfl ?_); refine zD (some 94) rfl rfl Try.func25 (by kernel_rfl) rfl #[.agg #[.slice Ao121 t307.length co121, .slice Ao127 t310.length co127, .int .i64 t313, .int .i64 t314], .agg #[.slice Ao25 t252.length co25, .slice Ao28 t255.length co28, .int .i64 t258, .int .i64 t259]] rfl (by (try simp only [List.map_toArray, List.map_cons, List.map_nil]); first | done | rfl | (simp only [List.length_drop, List.length_take]; rfl)) ?_; (with_reducible refine (laws_eqDisk.calls kj67 _ _ t307 _ _ t310 t313 t314 _ _ t252 _ _ t255 t258 t259 false _ ?side1 ?side2 ?side3 ?side4 ?side5 ?side6 ?side7 ?side8 A128.out).mono ?_); (case side1 => refine (Kd.qS (e := 9) (base := w.heap.size) (ok := fun k_ => ((((True ∧ some k_ ≠ (.slice Ao25 t252.length co25 : Value).ownBlock) ∧ some k_ ≠ (.slice Ao32 t292.length co32 : Value).ownBlock) ∧ some k_ ≠ (.slice Ao39 t271.length co39 : Value).ownBlock) ∧ some k_ ≠ (.slice Ao117 t299.length co117 : Value).ownBlock)) (n := t307.length) (c := co121) ?_).2.2; exact (by (with_reducible repeat (first | apply Kd.qK | apply Kd.qJ | apply Kd.qN)); exact (Kd.qP (Kd.R_far (p := ⟨gb316, 3, none⟩) (Kd.R_far (p := ⟨gb316, 2, none⟩) (Kd.R_far (p := ⟨gb316, 1, none⟩) (Kd.R_far (p := ⟨gb316, 0, none⟩) (Kd.qV HO309.out BK316.out (by decide)) (fun _ hk => hk.2) (.slice Ao121 t307.length co121)) (fun _ hk => hk.2) (.slice Ao127 t310.length co127)) (fun _ hk => hk.2) (.int .i64 t313)) (fun _ hk => hk.2) (.int .i64 t314)) (fun _ h_ => h_.1)))); (case side2 => exact (Kd.qS HO309.out).2.1); (case side3 => refine (Kd.qS (e := 70) (base := w.heap.size) (ok := fun k_ => ((((True ∧ some k_ ≠ (.slice Ao28 t255.length co28 : Value).ownBlock) ∧ some k_ ≠ (.slice Ao36 t293.length co36 : Value).ownBlock) ∧ some k_ ≠ (.slice Ao44 t274.length co44 : Value).ownBlock) ∧ some k_ ≠ (.slice Ao118 t302.length co118 : Value).ownBlock)) (n := t310.length) (c := co127) ?_).2.2; exact (by (with_reducible repeat (first | apply Kd.qK | apply Kd.qJ | apply Kd.qN)); exact (Kd.qP (Kd.R_far (p := ⟨gb316, 3, none⟩) (Kd.R_far (p := ⟨gb316, 2, none⟩) (Kd.R_far (p := ⟨gb316, 1, none⟩) (Kd.R_far (p := ⟨gb316, 0, none⟩) (Kd.qV HO312.out BK316.out (by decide)) (fun _ hk => hk.2) (.slice Ao121 t307.length co121)) (fun _ hk => hk.2) (.slice Ao127 t310.length co127)) (fun _ hk => hk.2) (.int .i64 t313)) (fun _ hk => hk.2) (.int .i64 t314)) (fun _ h_ => h_.1)))); (case side4 => exact (Kd.qS HO312.out).2.1); (case side5 => refine (Kd.qS (e := 9) (base := w.heap.size) (ok := fun k_ => (((some k_ ≠ (.slice Ao32 t292.length co32 : Value).ownBlock ∧ some k_ ≠ (.slice Ao39 t271.length co39 : Value).ownBlock) ∧ some k_ ≠ (.slice Ao117 t299.length co117 : Value).ownBlock) ∧ some k_ ≠ (.slice Ao121 t307.length co121 : Value).ownBlock)) (n := t252.length) (c := co25) ?_).2.2; exact (by (with_reducible repeat (first | apply Kd.qK | apply Kd.qJ | apply Kd.qN)); exact (Kd.qP (Kd.R_far (p := ⟨gb316, 3, none⟩) (Kd.R_far (p := ⟨gb316, 2, none⟩) (Kd.R_far (p := ⟨gb316, 1, none⟩) (Kd.R_far (p := ⟨gb316, 0, none⟩) (Kd.qV HO_262000.out BK316.out (by decide)) (fun _ hk => hk.2) (.slice Ao121 t307.length co121)) (fun _ hk => hk.2) (.slice Ao127 t310.length co127)) (fun _ hk => hk.2) (.int .i64 t313)) (fun _ hk => hk.2) (.int .i64 t314)) (fun _ h_ => h_.1)))); (case side6 => exact (Kd.qS HO_262000.out).2.1); (case side7 => refine (Kd.qS (e := 70) (base := w.heap.size) (ok := fun k_ => (((some k_ ≠ (.slice Ao36 t293.length co36 : Value).ownBlock ∧ some k_ ≠ (.slice Ao44 t274.length co44 : Value).ownBlock) ∧ some k_ ≠ (.slice Ao118 t302.length co118 : Value).ownBlock) ∧ some k_ ≠ (.slice Ao127 t310.length co127 : Value).ownBlock)) (n := t255.length) (c := co28) ?_).2.2; exact (by (with_reducible repeat (first | apply Kd.qK | apply Kd.qJ | apply Kd.qN)); exact (Kd.qP (Kd.R_far (p := ⟨gb316, 3, none⟩) (Kd.R_far (p := ⟨gb316, 2, none⟩) (Kd.R_far (p := ⟨gb316, 1, none⟩) (Kd.R_far (p := ⟨gb316, 0, none⟩) (Kd.qV HO_262001.out BK316.out (by decide)) (fun _ hk => hk.2) (.slice Ao121 t307.length co121)) (fun _ hk => hk.2) (.slice Ao127 t310.length co127)) (fun _ hk => hk.2) (.int .i64 t313)) (fun _ hk => hk.2) (.int .i64 t314)) (fun _ h_ => h_.1)))); (case side8 => exact (Kd.qS HO_262001.out).2.1); rintro e w149 ⟨rfl, hb⟩; refine ⟨_, rfl, ?_⟩; have n0_ := Aside0.mk (Kd.qR (by (with_reducible repeat (first | apply Kd.qK | apply Kd.qJ | apply Kd.qN)); exact (Kd.qP (Kd.R_far (p := ⟨gb316, 3, none⟩) (Kd.R_far (p := ⟨gb316, 2, none⟩) (Kd.R_far (p := ⟨gb316, 1, none⟩) (Kd.R_far (p := ⟨gb316, 0, none⟩) (Kd.qV HO_262000.out BK316.out (by decide)) (fun _ hk => hk.2) (.slice Ao121 t307.length co121)) (fun _ hk => hk.2) (.slice Ao127 t310.length co127)) (fun _ hk => hk.2) (.int .i64 t313)) (fun _ hk => hk.2) (.int .i64 t314)) (fun _ h_ => h_.1))) hb); have n1_ := Aside0.mk (Kd.qR (by (with_reducible repeat (first | apply Kd.qK | apply Kd.qJ | apply Kd.qN)); exact (Kd.qP (Kd.R_far (p := ⟨gb316, 3, none⟩) (Kd.R_far (p := ⟨gb316, 2, none⟩) (Kd.R_far (p := ⟨gb316, 1, none⟩) (Kd.R_far (p := ⟨gb316, 0, none⟩) (Kd.qV HO_262001.out BK316.out (by decide)) (fun _ hk => hk.2) (.slice Ao121 t307.length co121)) (fun _ hk => hk.2) (.slice Ao127 t310.length co127)) (fun _ hk => hk.2) (.int .i64 t313)) (fun _ hk => hk.2) (.int .i64 t314)) (fun _ h_ => h_.1))) hb); have n2_ := Aside0.mk (Kd.qR (by (with_reducible repeat (first | apply Kd.qK | apply Kd.qJ | apply Kd.qN)); exact (Kd.qP (Kd.R_far (p := ⟨gb316, 3, none⟩) (Kd.R_far (p := ⟨gb316, 2, none⟩) (Kd.R_far (p := ⟨gb316, 1, none⟩) (Kd.R_far (p := ⟨gb316, 0, none⟩) (Kd.qV HO_271000.out BK316.out (by decide)) (fun _ hk => hk.2) (.slice Ao121 t307.length co121)) (fun _ hk => hk.2) (.slice Ao127 t310.length co127)) (fun _ hk => hk.2) (.int .i64 t313)) (fun _ hk => hk.2) (.int .i64 t314)) (fun _ h_ => h_.1))) hb); have n3_ := Aside0.mk (Kd.qR (by (with_reducible repeat (first | apply Kd.qK | apply Kd.qJ | apply Kd.qN)); exact (Kd.qP (Kd.R_far (p := ⟨gb316, 3, none⟩) (Kd.R_far (p := ⟨gb316, 2, none⟩) (Kd.R_far (p := ⟨gb316, 1, none⟩) (Kd.R_far (p := ⟨gb316, 0, none⟩) (Kd.qV HO_271001.out BK316.out (by decide)) (fun _ hk => hk.2) (.slice Ao121 t307.length co121)) (fun _ hk => hk.2) (.slice Ao127 t310.length co127)) (fun _ hk => hk.2) (.int .i64 t313)) (fun _ hk => hk.2) (.int .i64 t314)) (fun _ h_ => h_.1))) hb); have n4_ := Aside0.mk (Kd.qR (by (with_reducible repeat (first | apply Kd.qK | apply Kd.qJ | apply Kd.qN)); exact (Kd.qP (Kd.R_far (p := ⟨gb316, 3, none⟩) (Kd.R_far (p := ⟨gb316, 2, none⟩) (Kd.R_far (p := ⟨gb316, 1, none⟩) (Kd.R_far (p := ⟨gb316, 0, none⟩) (Kd.qV HO_281000.out BK316.out (by decide)) (fun _ hk => hk.2) (.slice Ao121 t307.length co121)) (fun _ hk => hk.2) (.slice Ao127 t310.length co127)) (fun _ hk => hk.2) (.int .i64 t313)) (fun _ hk => hk.2) (.int .i64 t314)) (fun _ h_ => h_.1))) hb); have n5_ := Aside0.mk (Kd.qR (by (with_reducible repeat (first | apply Kd.qK | apply Kd.qJ | apply Kd.qN)); exact (Kd.qP (Kd.R_far (p := ⟨gb316, 3, none⟩) (Kd.R_far (p := ⟨gb316, 2, none⟩) (Kd.R_far (p := ⟨gb316, 1, none⟩) (Kd.R_far (p := ⟨gb316, 0, none⟩) (Kd.qV HO_281001.out BK316.out (by decide)) (fun _ hk => hk.2) (.slice Ao121 t307.length co121)) (fun _ hk => hk.2) (.slice Ao127 t310.length co127)) (fun _ hk => hk.2) (.int .i64 t313)) (fun _ hk => hk.2) (.int .i64 t314)) (fun _ h_ => h_.1))) hb); have n6_ := Aside0.mk (Kd.qR (by (with_reducible repeat (first | apply Kd.qK | apply Kd.qJ | apply Kd.qN)); exact (Kd.qP (Kd.R_far (p := ⟨gb316, 3, none⟩) (Kd.R_far (p := ⟨gb316, 2, none⟩) (Kd.R_far (p := ⟨gb316, 1, none⟩) (Kd.R_far (p := ⟨gb316, 0, none⟩) (Kd.qV HO301.out BK316.out (by decide)) (fun _ hk => hk.2) (.slice Ao121 t307.length co121)) (fun _ hk => hk.2) (.slice Ao127 t310.length co127)) (fun _ hk => hk.2) (.int .i64 t313)) (fun _ hk => hk.2) (.int .i64 t314)) (fun _ h_ => h_.1))) hb); have n7_ := Aside0.mk (Kd.qR (by (with_reducible repeat (first | apply Kd.qK | apply Kd.qJ | apply Kd.qN)); exact (Kd.qP (Kd.R_far (p := ⟨gb316, 3, none⟩) (Kd.R_far (p := ⟨gb316, 2, none⟩) (Kd.R_far (p := ⟨gb316, 1, none⟩) (Kd.R_far (p := ⟨gb316, 0, none⟩) (Kd.qV HO304.out BK316.out (by decide)) (fun _ hk => hk.2) (.slice Ao121 t307.length co121)) (fun _ hk => hk.2) (.slice Ao127 t310.length co127)) (fun _ hk => hk.2) (.int .i64 t313)) (fun _ hk => hk.2) (.int .i64 t314)) (fun _ h_ => h_.1))) hb); have n8_ := Aside0.mk (Kd.qR (by (with_reducible repeat (first | apply Kd.qK | apply Kd.qJ | apply Kd.qN)); exact (Kd.qP (Kd.R_far (p := ⟨gb316, 3, none⟩) (Kd.R_far (p := ⟨gb316, 2, none⟩) (Kd.R_far (p := ⟨gb316, 1, none⟩) (Kd.R_far (p := ⟨gb316, 0, none⟩) (Kd.qV HO309.out BK316.out (by decide)) (fun _ hk => hk.2) (.slice Ao121 t307.length co121)) (fun _ hk => hk.2) (.slice Ao127 t310.length co127)) (fun _ hk => hk.2) (.int .i64 t313)) (fun _ hk => hk.2) (.int .i64 t314)) (fun _ h_ => h_.1))) hb); have n9_ := Aside0.mk (Kd.qR (by (with_reducible repeat (first | apply Kd.qK | apply Kd.qJ | apply Kd.qN)); exact (Kd.qP (Kd.R_far (p := ⟨gb316, 3, none⟩) (Kd.R_far (p := ⟨gb316, 2, none⟩) (Kd.R_far (p := ⟨gb316, 1, none⟩) (Kd.R_far (p := ⟨gb316, 0, none⟩) (Kd.qV HO312.out BK316.out (by decide)) (fun _ hk => hk.2) (.slice Ao121 t307.length co121)) (fun _ hk => hk.2) (.slice Ao127 t310.length co127)) (fun _ hk => hk.2) (.int .i64 t313)) (fun _ hk => hk.2) (.int .i64 t314)) (fun _ h_ => h_.1))) hb); have n10_ := Aside0.mk (qL (g := gb242) (o := .cells #[.slice A0_0 l0_0.length c0_0, .slice A0_1 l0_1.length c0_1, .int .i64 a0_2, .int .i64 a0_3] 43 (0, 0)) (by (with_reducible repeat (first | refine qE ?_ _ | refine qI ?_ | refine qD ?_ _)); refine qQ ?_ NB242_316.out _; (with_reducible repeat (first | refine qE ?_ _ | refine qI ?_ | refine qD ?_ _)); refine qQ ?_ NB242_316.out _; (with_reducible repeat (first | refine qE ?_ _ | refine qI ?_ | refine qD ?_ _)); refine qQ ?_ NB242_316.out _; (with_reducible repeat (first | refine qE ?_ _ | refine qI ?_ | refine qD ?_ _)); refine qQ ?_ NB242_316.out _; (with_reducible repeat (first | refine qE ?_ _ | refine qI ?_ | refine qD ?_ _)); exact BK242.out) hb); have n11_ := Aside0.mk (qL (g := gb261) (o := .cells #[.slice Ao25 t252.length co25, .slice Ao28 t255.length co28, .int .i64 t258, .int .i64 t259] 26 (0, 0)) (by (with_reducible repeat (first | refine qE ?_ _ | refine qI ?_ | refine qD ?_ _)); refine qQ ?_ NB261_316.out _; (with_reducible repeat (first | refine qE ?_ _ | refine qI ?_ | refine qD ?_ _)); refine qQ ?_ NB261_316.out _; (with_reducible repeat (first | refine qE ?_ _ | refine qI ?_ | refine qD ?_ _)); refine qQ ?_ NB261_316.out _; (with_reducible repeat (first | refine qE ?_ _ | refine qI ?_ | refine qD ?_ _)); refine qQ ?_ NB261_316.out _; (with_reducible repeat (first | refine qE ?_ _ | refine qI ?_ | refine qD ?_ _)); exact BK261.out) hb); have n12_ := Aside0.mk (qL (g := gb270) (o := .cells #[.slice Ao32 t292.length co32, .slice Ao36 t293.length co36, .int .i64 t268, .int .i64 t269] 26 (0, 0)) (by (with_reducible repeat (first | refine qE ?_ _ | refine qI ?_ | refine qD ?_ _)); refine qQ ?_ NB270_316.out _; (with_reducible repeat (first | refine qE ?_ _ | refine qI ?_ | refine qD ?_ _)); refine qQ ?_ NB270_316.out _; (with_reducible repeat (first | refine qE ?_ _ | refine qI ?_ | refine qD ?_ _)); refine qQ ?_ NB270_316.out _; (with_reducible repeat (first | refine qE ?_ _ | refine qI ?_ | refine qD ?_ _)); refine qQ ?_ NB270_316.out _; (with_reducible repeat (first | refine qE ?_ _ | refine qI ?_ | refine qD ?_ _)); exact BK270.out) hb); have n13_ := Aside0.mk (qL (g := gb280) (o := .cells #[.slice Ao39 t271.length co39, .slice Ao44 t274.length co44, .int .i64 t277, .int .i64 t278] 26 (0, 0)) (by (with_reducible repeat (first | refine qE ?_ _ | refine qI ?_ | refine qD ?_ _)); refine qQ ?_ NB280_316.out _; (with_reducible repeat (first | refine qE ?_ _ | refine qI ?_ | refine qD ?_ _)); refine qQ ?_ NB280_316.out _; (with_reducible repeat (first | refine qE ?_ _ | refine qI ?_ | refine qD ?_ _)); refine qQ ?_ NB280_316.out _; (with_reducible repeat (first | refine qE ?_ _ | refine qI ?_ | refine qD ?_ _)); refine qQ ?_ NB280_316.out _; (with_reducible repeat (first | refine qE ?_ _ | refine qI ?_ | refine qD ?_ _)); exact BK280.out) hb); have n14_ := Aside0.mk (qL (g := gb316) (o := .cells #[.slice Ao121 t307.length co121, .slice Ao127 t310.length co127, .int .i64 t313, .int .i64 t314] 26 (0, 0)) (by (with_reducible repeat (first | refine qE ?_ _ | refine qI ?_ | refine qD ?_ _)); refine qU (cs := #[.slice Ao121 t307.length co121, .slice Ao127 t310.length co127, .int .i64 t313, .int .i64 0]) ?_ 3 _ rfl; (with_reducible repeat (first | refine qE ?_ _ | refine qI ?_ | refine qD ?_ _)); refine qU (cs := #[.slice Ao121 t307.length co121, .slice Ao127 t310.length co127, .int .i64 0, .int .i64 0]) ?_ 2 _ rfl; (with_reducible repeat (first | refine qE ?_ _ | refine qI ?_ | refine qD ?_ _)); refine qU (cs := #[.slice Ao121 t307.length co121, .slice none 0 0, .int .i64 0, .int .i64 0]) ?_ 1 _ rfl; (with_reducible repeat (first | refine qE ?_ _ | refine qI ?_ | refine qD ?_ _)); refine qU (cs := #[.slice none 0 0, .slice none 0 0, .int .i64 0, .int .i64 0]) ?_ 0 _ rfl; (with_reducible repeat (first | refine qE ?_ _ | refine qI ?_ | refine qD ?_ _)); exact BK316.out) hb); have n15_ := Aside0.mk (qO (by repeat (first | (with_reducible first | exact HB.out | apply qH | apply qA | apply qG | refine qF ?_ GE242.out | refine qF ?_ GE261.out | refine qF ?_ GE270.out | refine qF ?_ GE280.out | refine qF ?_ GE316.out) | exact HB.out)) hb); clear HO_262000; clear HO_262001; clear HO_271000; clear HO_271001; clear HO_281000; clear HO_281001; clear HO301; clear HO304; clear HO309; clear HO312; clear BK242; clear BK261; clear BK270; clear BK280; clear BK316; clear HB; have HO_262000 := n0_; have HO_262001 := n1_; have HO_271000 := n2_; have HO_271001 := n3_; have HO_281000 := n4_; have HO_281001 := n5_; have HO301 := n6_; have HO304 := n7_; have HO309 := n8_; have HO312 := n9_; have BK242 := n10_; have BK261 := n11_; have BK270 := n12_; have BK280 := n13_; have BK316 := n14_; have HB := n15_; clear n0_ n1_ n2_ n3_ n4_ n5_ n6_ n7_ n8_ n9_ n10_ n11_ n12_ n13_ n14_ n15_; (try clear hb); (try clear hb2); (try clear hk); (try clear hi)))
                            go_meet
                            case rel => exact ⟨_, (true), (by first | rfl | (simp; done) | (simp [*]; done)), H', ⟨by have := HJ14.out; have := HJ67.out; first | omega | exact Nat.le_refl _⟩, ⟨by (try simp only [hl271000_67]); (try simp only [hl271001_67]); (with_reducible repeat (first | apply Kd.qK | apply Kd.qJ | apply Kd.qN)); exact Kd.qP HO_262000.out (fun _ hk => ⟨hk.1.1.1, ⟨hk.1.1.2, hk.2⟩⟩)⟩, ⟨by (try simp only [hl271000_67]); (try simp only [hl271001_67]); (with_reducible repeat (first | apply Kd.qK | apply Kd.qJ | apply Kd.qN)); exact Kd.qP HO_262001.out (fun _ hk => ⟨hk.1.1.1, ⟨hk.1.1.2, hk.2⟩⟩)⟩, ⟨by (try simp only [hl271000_67]); (try simp only [hl271001_67]); (with_reducible repeat (first | apply Kd.qK | apply Kd.qJ | apply Kd.qN)); exact Kd.qP HO_271000.out (fun _ hk => ⟨hk.1.1.1, ⟨hk.1.1.2, hk.2⟩⟩)⟩, ⟨by (try simp only [hl271000_67]); (try simp only [hl271001_67]); (with_reducible repeat (first | apply Kd.qK | apply Kd.qJ | apply Kd.qN)); exact Kd.qP HO_271001.out (fun _ hk => ⟨hk.1.1.1, ⟨hk.1.1.2, hk.2⟩⟩)⟩, ⟨by (try simp only [hl271000_67]); (try simp only [hl271001_67]); (with_reducible repeat (first | apply Kd.qK | apply Kd.qJ | apply Kd.qN)); exact Kd.qP HO_281000.out (fun _ hk => ⟨hk.1.1.1, ⟨hk.1.1.2, hk.2⟩⟩)⟩, ⟨by (try simp only [hl271000_67]); (try simp only [hl271001_67]); (with_reducible repeat (first | apply Kd.qK | apply Kd.qJ | apply Kd.qN)); exact Kd.qP HO_281001.out (fun _ hk => ⟨hk.1.1.1, ⟨hk.1.1.2, hk.2⟩⟩)⟩, ⟨by (try simp only [hl271000_67]); (try simp only [hl271001_67]); (with_reducible repeat (first | apply Kd.qK | apply Kd.qJ | apply Kd.qN)); exact Kd.qP HO309.out (fun _ hk => ⟨hk.1.1.1.2, ⟨hk.1.1.2, hk.1.2⟩⟩)⟩, ⟨by (try simp only [hl271000_67]); (try simp only [hl271001_67]); (with_reducible repeat (first | apply Kd.qK | apply Kd.qJ | apply Kd.qN)); exact Kd.qP HO312.out (fun _ hk => ⟨hk.1.1.1.2, ⟨hk.1.1.2, hk.1.2⟩⟩)⟩, ⟨by (try simp only [hl271000_67]); (try simp only [hl271001_67]); (with_reducible repeat (first | refine qE ?_ _ | refine qI ?_ | refine qD ?_ _)); exact BK242.out⟩, ⟨by (try simp only [hl271000_67]); (try simp only [hl271001_67]); (with_reducible repeat (first | refine qE ?_ _ | refine qI ?_ | refine qD ?_ _)); exact BK261.out⟩, ⟨by (try simp only [hl271000_67]); (try simp only [hl271001_67]); (with_reducible repeat (first | refine qE ?_ _ | refine qI ?_ | refine qD ?_ _)); exact BK270.out⟩, ⟨by (try simp only [hl271000_67]); (try simp only [hl271001_67]); (with_reducible repeat (first | refine qE ?_ _ | refine qI ?_ | refine qD ?_ _)); exact BK280.out⟩, ⟨by (try simp only [hl271000_67]); (try simp only [hl271001_67]); (with_reducible repeat (first | refine qE ?_ _ | refine qI ?_ | refine qD ?_ _)); exact BK316.out⟩, ⟨by repeat (first | (with_reducible first | exact HB.out | apply qH | apply qA | apply qG | refine qF ?_ GE242.out | refine qF ?_ GE261.out | refine qF ?_ GE270.out | refine qF ?_ GE280.out | refine qF ?_ GE316.out) | exact HB.out)⟩⟩
                        case rest =>
                          clear HC105
                          try clear c1
                          try clear c2
                          try clear p2
                          try clear c3
                          try clear c4
                          try clear c4b0
                          try clear c4b1
                          try clear c5
                          try clear c6
                          try clear c7
                          try clear c7b0
                          try clear c8
                          try clear c9
                          try clear c10
                          try clear c11
                          try clear c12
                          try clear c13
                          try clear c14
                          try clear c16
                          try clear c18
                          try clear c23
                          try clear c24
                          try clear c25
                          try clear c26
                          try clear c27
                          try clear c33
                          try clear c34
                          try clear c40
                          try clear c41
                          try clear c42
                          try clear c46
                          try clear c47
                          try clear c48
                          try clear c49
                          try clear c51
                          try clear c52
                          try clear c55
                          try clear c56
                          try clear c57
                          try clear c59
                          try clear c60
                          try clear c63
                          try clear c66
                          try clear c74
                          try clear c75
                          try clear c76
                          try clear c79
                          try clear c79b0
                          try clear c81
                          try clear c82
                          try clear c83
                          try clear c84
                          try clear c86
                          try clear c87
                          try clear c90
                          try clear c91
                          try clear c92
                          try clear c94
                          try clear c95
                          try clear c98
                          try clear c101
                          try clear c101b0
                          try clear c102
                          try clear c102b0
                          try clear c102b1
                          try clear c106
                          try clear c107
                          try clear c108
                          try clear c113
                          try clear c114
                          try clear c122
                          try clear c123
                          try clear c124
                          try clear c125
                          try clear c129
                          try clear c130
                          try clear c131
                          try clear c132
                          try clear c133
                          try clear c135
                          try clear c136
                          try clear c137
                          try clear c140
                          try clear c141
                          try clear c142
                          try clear c143
                          try clear c145
                          try clear c146
                          try clear c147
                          try clear hcz109_0
                          try clear hcz109_1
                          try clear hcz109_2
                          try clear hcz109_3
                          try clear hcz111_0
                          try clear hcz111_1
                          try clear hcz111_2
                          try clear hcz111_3
                          try clear hcz115_0
                          try clear hcz115_1
                          try clear hcz115_2
                          try clear hcz115_3
                          try clear hcz126_0
                          try clear hcz126_1
                          try clear hcz126_2
                          try clear hcz126_3
                          try clear hcz134_0
                          try clear hcz134_1
                          try clear hcz134_2
                          try clear hcz134_3
                          try clear hcz138_0
                          try clear hcz138_1
                          try clear hcz138_2
                          try clear hcz138_3
                          try clear hcz144_0
                          try clear hcz144_1
                          try clear hcz144_2
                          try clear hcz144_3
                          try clear hcz148_0
                          try clear hcz148_1
                          try clear hcz148_2
                          try clear hcz148_3
                          try clear hcz17_0
                          try clear hcz17_1
                          try clear hcz17_2
                          try clear hcz17_3
                          try clear hcz19_0
                          try clear hcz19_1
                          try clear hcz19_2
                          try clear hcz19_3
                          try clear hcz27_0
                          try clear hcz27_1
                          try clear hcz27_2
                          try clear hcz27_3
                          try clear hcz29_0
                          try clear hcz29_1
                          try clear hcz29_2
                          try clear hcz29_3
                          try clear hcz35_0
                          try clear hcz35_1
                          try clear hcz35_2
                          try clear hcz35_3
                          try clear hcz43_0
                          try clear hcz43_1
                          try clear hcz43_2
                          try clear hcz43_3
                          try clear hcz50_0
                          try clear hcz50_1
                          try clear hcz50_2
                          try clear hcz50_3
                          try clear hcz53_0
                          try clear hcz53_1
                          try clear hcz53_2
                          try clear hcz53_3
                          try clear hcz58_0
                          try clear hcz58_1
                          try clear hcz58_2
                          try clear hcz58_3
                          try clear hcz61_0
                          try clear hcz61_1
                          try clear hcz61_2
                          try clear hcz61_3
                          try clear hcz77_0
                          try clear hcz77_1
                          try clear hcz77_2
                          try clear hcz77_3
                          try clear hcz85_0
                          try clear hcz85_1
                          try clear hcz85_2
                          try clear hcz85_3
                          try clear hcz88_0
                          try clear hcz88_1
                          try clear hcz88_2
                          try clear hcz88_3
                          try clear hcz93_0
                          try clear hcz93_1
                          try clear hcz93_2
                          try clear hcz93_3
                          try clear hcz96_0
                          try clear hcz96_1
                          try clear hcz96_2
                          try clear hcz96_3
                          try clear hcz9_0
                          try clear hcz9_1
                          try clear hcz9_2
                          try clear hcz9_3
                          try clear hfz109_0
                          try clear hfz109_1
                          try clear hfz109_2
                          try clear hfz109_3
                          try clear hfz111_0
                          try clear hfz111_1
                          try clear hfz111_2
                          try clear hfz111_3
                          try clear hfz115_0
                          try clear hfz115_1
                          try clear hfz115_2
                          try clear hfz115_3
                          try clear hfz126_0
                          try clear hfz126_1
                          try clear hfz126_2
                          try clear hfz126_3
                          try clear hfz134_0
                          try clear hfz134_1
                          try clear hfz134_2
                          try clear hfz134_3
                          try clear hfz138_0
                          try clear hfz138_1
                          try clear hfz138_2
                          try clear hfz138_3
                          try clear hfz144_0
                          try clear hfz144_1
                          try clear hfz144_2
                          try clear hfz144_3
                          try clear hfz148_0
                          try clear hfz148_1
                          try clear hfz148_2
                          try clear hfz148_3
                          try clear hfz17_0
                          try clear hfz17_1
                          try clear hfz17_2
                          try clear hfz17_3
                          try clear hfz19_0
                          try clear hfz19_1
                          try clear hfz19_2
                          try clear hfz19_3
                          try clear hfz27_0
                          try clear hfz27_1
                          try clear hfz27_2
                          try clear hfz27_3
                          try clear hfz29_0
                          try clear hfz29_1
                          try clear hfz29_2
                          try clear hfz29_3
                          try clear hfz35_0
                          try clear hfz35_1
                          try clear hfz35_2
                          try clear hfz35_3
                          try clear hfz43_0
                          try clear hfz43_1
                          try clear hfz43_2
                          try clear hfz43_3
                          try clear hfz50_0
                          try clear hfz50_1
                          try clear hfz50_2
                          try clear hfz50_3
                          try clear hfz53_0
                          try clear hfz53_1
                          try clear hfz53_2
                          try clear hfz53_3
                          try clear hfz58_0
                          try clear hfz58_1
                          try clear hfz58_2
                          try clear hfz58_3
                          try clear hfz61_0
                          try clear hfz61_1
                          try clear hfz61_2
                          try clear hfz61_3
                          try clear hfz77_0
                          try clear hfz77_1
                          try clear hfz77_2
                          try clear hfz77_3
                          try clear hfz85_0
                          try clear hfz85_1
                          try clear hfz85_2
                          try clear hfz85_3
                          try clear hfz88_0
                          try clear hfz88_1
                          try clear hfz88_2
                          try clear hfz88_3
                          try clear hfz93_0
                          try clear hfz93_1
                          try clear hfz93_2
                          try clear hfz93_3
                          try clear hfz96_0
                          try clear hfz96_1
                          try clear hfz96_2
                          try clear hfz96_3
                          try clear hfz9_0
                          try clear hfz9_1
                          try clear hfz9_2
                          try clear hfz9_3
                          try clear p2
                          obtain ⟨kq, x100_104, rfl, HA, HJ104, HO_262000, HO_262001, HO_271000, HO_271001, HO_281000, HO_281001, HO_317000, HO_317001, BK242, BK261, BK270, BK280, BK316, HB⟩ := hcut
                          have hl281000_104 := (Kd.qS HO_281000.out).1
                          rw [hl281000_104] at HO_281000
                          (try simp only [hl281000_104])
                          (try simp only [hl281000_104] at BK242)
                          (try simp only [hl281000_104] at BK261)
                          (try simp only [hl281000_104] at BK270)
                          (try simp only [hl281000_104] at BK280)
                          (try simp only [hl281000_104] at BK316)
                          (try simp only [hl281000_104] at HO_262000)
                          (try simp only [hl281000_104] at HO_262001)
                          (try simp only [hl281000_104] at HO_271000)
                          (try simp only [hl281000_104] at HO_271001)
                          (try simp only [hl281000_104] at HO_281001)
                          (try simp only [hl281000_104] at HO_317000)
                          (try simp only [hl281000_104] at HO_317001)
                          have hl281001_104 := (Kd.qS HO_281001.out).1
                          rw [hl281001_104] at HO_281001
                          (try simp only [hl281001_104])
                          (try simp only [hl281001_104] at BK242)
                          (try simp only [hl281001_104] at BK261)
                          (try simp only [hl281001_104] at BK270)
                          (try simp only [hl281001_104] at BK280)
                          (try simp only [hl281001_104] at BK316)
                          (try simp only [hl281001_104] at HO_262000)
                          (try simp only [hl281001_104] at HO_262001)
                          (try simp only [hl281001_104] at HO_271000)
                          (try simp only [hl281001_104] at HO_271001)
                          (try simp only [hl281001_104] at HO_281000)
                          (try simp only [hl281001_104] at HO_317000)
                          (try simp only [hl281001_104] at HO_317001)
                          cases kq with
                          | zero => exact absurd HA.out (by simp [laws_FnExactDiskWrite.j2])
                          | succ kj104 =>
                            have H := HA.out
                            clear HA
                            simp only [laws_FnExactDiskWrite.j2] at H
                            by_cases c150 : x100_104 = true
                            · subst c150
                              have H1 : (some false) = some true := by rw [if_pos rfl] at H; exact H
                              clear H
                              have H := H1
                              clear H1
                              exact absurd H (by simp)
                            · replace c150 := Bool.eq_false_iff.mpr c150
                              subst c150
                              have H1 : ((laws_heldDisk.f kj104 t296 t297 t277 t278 1).bind fun t318 => (if t318 < 0 then (some false) else (if t318 = t295 then (some true) else (some false)))) = some true := by rw [if_neg (show ¬ (false = true) by decide)] at H; exact H
                              clear H
                              have H := H1
                              clear H1
                              replace H := Option.bind_eq_some_iff.mp H
                              obtain ⟨t318, A1510, H⟩ := H
                              replace H : (if t318 < 0 then (some false) else (if t318 = t295 then (some true) else (some false))) = some true := H
                              have A151 := Aside0.mk A1510
                              clear A1510
                              by_cases c152 : t318 < 0
                              · rw [if_pos c152] at H
                                have c152b0 : decide (t318 < 0) = true := decide_eq_true c152
                                clear c152
                                exact absurd H (by simp)
                              · rw [if_neg c152] at H
                                have c152b0 : decide (t318 < 0) = false := decide_eq_false c152
                                clear c152
                                by_cases c153 : t318 = t295
                                · rw [if_pos c153] at H
                                  have c153b0 : (t318 == t295) = true := beq_iff_eq.mpr c153
                                  have c153b1 : (t318 != t295) = false := bne_eq_false_iff_eq.mpr c153
                                  clear c153
                                  have HT_ : true = true := Option.some.inj H
                                  clear H
                                  have hnb154 := NB280_242.out
                                  have hnc154 := NB242_280.out
                                  have hnb155 := NB280_261.out
                                  have hnc155 := NB261_280.out
                                  have hnb156 := NB280_270.out
                                  have hnc156 := NB270_280.out
                                  have hnb157 := NB280_316.out
                                  have hnc157 := NB316_280.out
                                  have hcz158_0 : wc.cell? ⟨gb280, 0, none⟩ = some (.slice Ao39 t296.length co39) := (qC BK280.out 0).trans rfl
                                  have hcz158_1 : wc.cell? ⟨gb280, 1, none⟩ = some (.slice Ao44 t297.length co44) := (qC BK280.out 1).trans rfl
                                  have hcz158_2 : wc.cell? ⟨gb280, 2, none⟩ = some (.int .i64 t277) := (qC BK280.out 2).trans rfl
                                  have hcz158_3 : wc.cell? ⟨gb280, 3, none⟩ = some (.int .i64 t278) := (qC BK280.out 3).trans rfl
                                  have hfz158_0 := qB BK280.out 0
                                  have hfz158_1 := qB BK280.out 1
                                  have hfz158_2 := qB BK280.out 2
                                  have hfz158_3 := qB BK280.out 3
                                  go_wp2_with (first | ((with_reducible refine qT (f := 27) rfl ?_); refine zD (some 103) rfl rfl Try.func27 (by kernel_rfl) rfl #[.agg #[.slice Ao39 t296.length co39, .slice Ao44 t297.length co44, .int .i64 t277, .int .i64 t278], .int .i64 1] rfl (by (try simp only [List.map_toArray, List.map_cons, List.map_nil]); first | done | rfl | (simp only [List.length_drop, List.length_take]; rfl)) ?_; (with_reducible refine (laws_heldDisk.calls kj104 _ _ t296 _ _ t297 t277 t278 1 t318 _ ?side1 ?side2 ?side3 ?side4 A151.out).mono ?_); (case side1 => repeat (first | exact (Kd.qS HO_281000.out).2.2 | (with_reducible refine Kd.qZ ?_ _) | (with_reducible refine Kd.zA ?_ _) | (with_reducible refine Kd.zC ?_))); (case side2 => exact (Kd.qS HO_281000.out).2.1); (case side3 => repeat (first | exact (Kd.qS HO_281001.out).2.2 | (with_reducible refine Kd.qZ ?_ _) | (with_reducible refine Kd.zA ?_ _) | (with_reducible refine Kd.zC ?_))); (case side4 => exact (Kd.qS HO_281001.out).2.1); rintro e w159 ⟨rfl, hb⟩; refine ⟨_, rfl, ?_⟩; have n0_ := Aside0.mk (Kd.qR (by (with_reducible repeat (first | apply Kd.qK | apply Kd.qJ | apply Kd.qN)); exact HO_262000.out) hb); have n1_ := Aside0.mk (Kd.qR (by (with_reducible repeat (first | apply Kd.qK | apply Kd.qJ | apply Kd.qN)); exact HO_262001.out) hb); have n2_ := Aside0.mk (Kd.qR (by (with_reducible repeat (first | apply Kd.qK | apply Kd.qJ | apply Kd.qN)); exact HO_271000.out) hb); have n3_ := Aside0.mk (Kd.qR (by (with_reducible repeat (first | apply Kd.qK | apply Kd.qJ | apply Kd.qN)); exact HO_271001.out) hb); have n4_ := Aside0.mk (Kd.qR (by (with_reducible repeat (first | apply Kd.qK | apply Kd.qJ | apply Kd.qN)); exact HO_281000.out) hb); have n5_ := Aside0.mk (Kd.qR (by (with_reducible repeat (first | apply Kd.qK | apply Kd.qJ | apply Kd.qN)); exact HO_281001.out) hb); have n6_ := Aside0.mk (Kd.qR (by (with_reducible repeat (first | apply Kd.qK | apply Kd.qJ | apply Kd.qN)); exact HO_317000.out) hb); have n7_ := Aside0.mk (Kd.qR (by (with_reducible repeat (first | apply Kd.qK | apply Kd.qJ | apply Kd.qN)); exact HO_317001.out) hb); have n8_ := Aside0.mk (qL (g := gb242) (o := .cells #[.slice A0_0 l0_0.length c0_0, .slice A0_1 l0_1.length c0_1, .int .i64 a0_2, .int .i64 a0_3] 43 (0, 0)) (by (with_reducible repeat (first | refine qE ?_ _ | refine qI ?_ | refine qD ?_ _)); exact BK242.out) hb); have n9_ := Aside0.mk (qL (g := gb261) (o := .cells #[.slice Ao25 t252.length co25, .slice Ao28 t255.length co28, .int .i64 t258, .int .i64 t259] 26 (0, 0)) (by (with_reducible repeat (first | refine qE ?_ _ | refine qI ?_ | refine qD ?_ _)); exact BK261.out) hb); have n10_ := Aside0.mk (qL (g := gb270) (o := .cells #[.slice Ao32 t292.length co32, .slice Ao36 t293.length co36, .int .i64 t268, .int .i64 t269] 26 (0, 0)) (by (with_reducible repeat (first | refine qE ?_ _ | refine qI ?_ | refine qD ?_ _)); exact BK270.out) hb); have n11_ := Aside0.mk (qL (g := gb280) (o := .cells #[.slice Ao39 t296.length co39, .slice Ao44 t297.length co44, .int .i64 t277, .int .i64 t278] 26 (0, 0)) (by (with_reducible repeat (first | refine qE ?_ _ | refine qI ?_ | refine qD ?_ _)); exact BK280.out) hb); have n12_ := Aside0.mk (qL (g := gb316) (o := .cells #[.slice Ao121 t307.length co121, .slice Ao127 t310.length co127, .int .i64 t313, .int .i64 t314] 26 (0, 0)) (by (with_reducible repeat (first | refine qE ?_ _ | refine qI ?_ | refine qD ?_ _)); exact BK316.out) hb); have n13_ := Aside0.mk (qO (by repeat (first | (with_reducible first | exact HB.out | apply qH | apply qA | apply qG | refine qF ?_ GE242.out | refine qF ?_ GE261.out | refine qF ?_ GE270.out | refine qF ?_ GE280.out | refine qF ?_ GE316.out) | exact HB.out)) hb); clear HO_262000; clear HO_262001; clear HO_271000; clear HO_271001; clear HO_281000; clear HO_281001; clear HO_317000; clear HO_317001; clear BK242; clear BK261; clear BK270; clear BK280; clear BK316; clear HB; have HO_262000 := n0_; have HO_262001 := n1_; have HO_271000 := n2_; have HO_271001 := n3_; have HO_281000 := n4_; have HO_281001 := n5_; have HO_317000 := n6_; have HO_317001 := n7_; have BK242 := n8_; have BK261 := n9_; have BK270 := n10_; have BK280 := n11_; have BK316 := n12_; have HB := n13_; clear n0_ n1_ n2_ n3_ n4_ n5_ n6_ n7_ n8_ n9_ n10_ n11_ n12_ n13_; (try clear hb); (try clear hb2); (try clear hk); (try clear hi)))
                                  go_ret
                                  exact ⟨by first | rfl | (simp [errW_none, errW_some] <;> rfl) | (simp [*, errW_none, errW_some] <;> rfl), by repeat (first | (with_reducible first | exact HB.out | apply qH | apply qA | apply qG | refine qF ?_ GE242.out | refine qF ?_ GE261.out | refine qF ?_ GE270.out | refine qF ?_ GE280.out | refine qF ?_ GE316.out) | exact HB.out)⟩
                                · rw [if_neg c153] at H
                                  have c153b0 : (t318 == t295) = false := beq_eq_false_iff_ne.mpr c153
                                  have c153b1 : (t318 != t295) = true := bne_iff_ne.mpr c153
                                  exact absurd H (by simp)
                      · rw [if_neg c102] at H
                        have c102b0 : (t298 == t295) = false := beq_eq_false_iff_ne.mpr c102
                        have c102b1 : (t298 != t295) = true := bne_iff_ne.mpr c102
                        exact absurd H (by simp)
            · replace c66 := Bool.eq_false_iff.mpr c66
              subst c66
              have H1 : (some false) = some true := by rw [if_neg (show ¬ (false = true) by decide)] at H; exact H
              clear H
              have H := H1
              clear H1
              exact absurd H (by simp)

end Go.Proofs.Ytepihebkdnmppaa.Ag
