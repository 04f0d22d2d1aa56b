/- Walks of the seat's functions, written by a program of this session (xprint.py) with the kit's printer: each call comes to just what its Lean function says. -/
import Derived.Test.YtepihebkdnmppaaxAjAj0
import Derived.Test.YtepihebkdnmppaaxAjAj3
import Derived.Test.YtepihebkdnmppaaxAjAj4
import Derived.Test.YtepihebkdnmppaaxAjAj6
namespace Go.Proofs.Ytepihebkdnmppaa.Aj
open Go.RowKit Go.Proofs.YtepihebkdnmppaaV.PrintWords Go.Proofs.YtepihebkdnmppaaV.PrintLast Go.Proofs.YtepihebkdnmppaaV.PrintMore
attribute [local go_sem] xH min2_int max_two min_two xA xB max_four min_four   -- for this text's walks alone
attribute [local go_sem high] World.zO
set_option linter.unusedVariables false
set_option linter.unusedSimpArgs false

/-! ### spec_l15AnyDisk: function 33 -/
def spec_l15AnyDisk.l0 : Nat → List Int → Int → List ByteArray → List (S70) → Int → Int → Option (List ByteArray × (List (S70)) × Int × Int × Int)
  | 0, _, _, _, _, _, _ => none
  | k + 1, x1000, x1001, x288000, x288001, x288002, x288003 => (spec_l1Rd_pick.f k x1000 x1001 2).bind fun bt303 => (if (x288001.length : Int) < (wrap64 (100 + bt303.1)) then (if x288001.length < 5864062014805 then (spec_l15AnyDisk.l0 k x1000 bt303.2 x288000 (x288001 ++ [(⟨5, (⟨#[119]⟩ : ByteArray)⟩ : S70)]) x288002 x288003) else (none)) else (some (x288000, x288001, x288002, x288003, bt303.2)))
def spec_l15AnyDisk.f (k : Nat) (s0_0 : List Int) (s0_1 : Int) : Option (List ByteArray × (List (S70)) × Int × Int × Int) := (spec_l15Disk.f k s0_0 s0_1).bind fun bt278 => ((spec_l1Rd_pick.f k s0_0 bt278.2.2.2.2 24).bind fun bt288 => (if bt288.1 = 0 then (if 1 ≤ (bt278.1.length : Int) then (some ((bt278.1.drop (1 : Int).toNat), bt278.2.1, bt278.2.2.1, bt278.2.2.2.1, bt288.2)) else (none)) else (if bt288.1 = 1 then (some (bt278.1, bt278.2.1, (-2), bt278.2.2.2.1, bt288.2)) else (if bt288.1 = 2 then ((spec_l1Rd_one.f k s0_0 bt288.2 (([(-1), 42] : List Int))).bind fun bt296 => (if bt278.2.1.length < 5864062014805 then (some (bt278.1, (bt278.2.1 ++ [(⟨bt296.1, (⟨#[]⟩ : ByteArray)⟩ : S70)]), bt278.2.2.1, bt278.2.2.2.1, bt296.2)) else (none))) else (if bt288.1 = 3 then ((spec_l1Many.f k (⟨#[99]⟩ : ByteArray) 1201).bind fun t301 => (if 0 < (bt278.1.length : Int) then (some ((bt278.1.set (0 : Int).toNat t301), bt278.2.1, bt278.2.2.1, bt278.2.2.2.1, bt288.2)) else (none))) else (if bt288.1 = 4 then (some (bt278.1, bt278.2.1, bt278.2.2.1, (-2), bt288.2)) else (if bt288.1 = 5 then (spec_l15AnyDisk.l0 k s0_0 bt288.2 bt278.1 bt278.2.1 bt278.2.2.1 bt278.2.2.2.1) else (some (bt278.1, bt278.2.1, bt278.2.2.1, bt278.2.2.2.1, bt288.2)))))))))
theorem spec_l15AnyDisk.mono_l : ∀ k, (∀ y0 y1 y2 y3 y4 y5, LeO (spec_l15AnyDisk.l0 k y0 y1 y2 y3 y4 y5) (spec_l15AnyDisk.l0 (k + 1) y0 y1 y2 y3 y4 y5))
  | 0 => fun _ _ _ _ _ _ r h => by simp [spec_l15AnyDisk.l0] at h
  | k + 1 => by
    have ih0 := spec_l15AnyDisk.mono_l k
    · intro y0 y1 y2 y3 y4 y5
      unfold spec_l15AnyDisk.l0
      repeat' first
      | (with_reducible exact ih0 _ _ _ _ _ _)
      | (with_reducible exact spec_l15Disk.mono _ _ _)
      | (with_reducible exact spec_l1Many.mono _ _ _)
      | (with_reducible exact spec_l1Rd_one.mono _ _ _ _)
      | (with_reducible exact spec_l1Rd_pick.mono _ _ _ _)
      | (with_reducible exact LeO.refl _)
      | (with_reducible exact LeO.none _)
      | (with_reducible refine LeO.ite ?_ ?_)
      | (with_reducible refine LeO.bind ?_ (fun _ => ?_))
      | exact ih0 _ _ _ _ _ _
      | exact spec_l15Disk.mono _ _ _
      | exact spec_l1Many.mono _ _ _
      | exact spec_l1Rd_one.mono _ _ _ _
      | exact spec_l1Rd_pick.mono _ _ _ _
      | exact LeO.none _
      | refine LeO.ite ?_ ?_
      | refine LeO.bind ?_ (fun _ => ?_)
theorem spec_l15AnyDisk.mono : ∀ a0 a1 k, LeO (spec_l15AnyDisk.f k a0 a1) (spec_l15AnyDisk.f (k + 1) a0 a1) := by
  intro a0 a1 k
  have ih0 := spec_l15AnyDisk.mono_l k
  unfold spec_l15AnyDisk.f
  repeat' first
      | (with_reducible exact ih0 _ _ _ _ _ _)
      | (with_reducible exact spec_l15Disk.mono _ _ _)
      | (with_reducible exact spec_l1Many.mono _ _ _)
      | (with_reducible exact spec_l1Rd_one.mono _ _ _ _)
      | (with_reducible exact spec_l1Rd_pick.mono _ _ _ _)
      | (with_reducible exact LeO.refl _)
      | (with_reducible exact LeO.none _)
      | (with_reducible refine LeO.ite ?_ ?_)
      | (with_reducible refine LeO.bind ?_ (fun _ => ?_))
      | exact ih0 _ _ _ _ _ _
      | exact spec_l15Disk.mono _ _ _
      | exact spec_l1Many.mono _ _ _
      | exact spec_l1Rd_one.mono _ _ _ _
      | exact spec_l1Rd_pick.mono _ _ _ _
      | exact LeO.none _
      | refine LeO.ite ?_ ?_
      | refine LeO.bind ?_ (fun _ => ?_)
def spec_l15AnyDisk.T8 : Bool × List (List Nat × List Nat) := (true, [([], []), ([0], [0]), ([], []), ([], []), ([2, 3], [2, 3]), ([4], [4]), ([5], [5]), ([1, 6, 4], [1, 6]), ([0, 1, 2, 3, 4, 5, 6, 7], []), ([8, 7, 7, 0, 1, 2, 3, 4, 5, 6, 7], [7, 8])])
def spec_l15AnyDisk.B8 : List Nat := [0, 1, 0, 0, 12, 28, 60, 127, 255, 511]
theorem spec_l15AnyDisk.tab8 : rtab .any (opsOf Try.f33 8) = spec_l15AnyDisk.T8 := by kernel_rfl
theorem spec_l15AnyDisk.bits8 : waitsOk spec_l15AnyDisk.T8.2 spec_l15AnyDisk.B8 = true := by kernel_rfl
set_option maxHeartbeats 8000000 in
set_option maxRecDepth 100000 in
theorem spec_l15AnyDisk.calls (k : Nat) (g : Nat) (s0_0 : List Int) (s0_1 : Int) (r1 : List ByteArray) (r2 : List (S70)) (r3 : Int) (r4 : Int) (r5 : Int) (w0 w : World) (hI : IsS83 w0 w g s0_0 s0_1) (hB : Below w0.heap.size w0 w) (h : spec_l15AnyDisk.f k s0_0 s0_1 = some (r1, r2, r3, r4, r5)) :
    Calls Try.prog 33 #[.pointer (some ⟨g, 0, none⟩)] w fun e w' => ∃ v0_ v1_ : Value, e = .returned (.agg #[v0_, v1_, .int .i64 r3, .int .i64 r4]) ∧ Kd.Q Kd.string 9 w' w.heap.size (fun _ => True) v0_ r1 ∧ Kd.R k70 70 w' w.heap.size (fun _ => True) v1_ r2 ∧ IsS83 w0 w' g s0_0 r5 ∧ Below w0.heap.size w0 w' ∧ KeepBut w w' g none := by
  have hu26 := Try.underlying26
  have hu70 := Try.underlying70
  have HI0 := Aside0.mk hI
  have HK := Aside0.mk (KeepBut.refl w g none)
  have HL := Aside0.mk hB.size
  clear hI
  have HW0 := Aside0.mk hB.size
  have HB := Aside0.mk hB
  clear hB
  have H : ((spec_l15Disk.f k s0_0 s0_1).bind fun bt278 => ((spec_l1Rd_pick.f k s0_0 bt278.2.2.2.2 24).bind fun bt288 => (if bt288.1 = 0 then (if 1 ≤ (bt278.1.length : Int) then (some ((bt278.1.drop (1 : Int).toNat), bt278.2.1, bt278.2.2.1, bt278.2.2.2.1, bt288.2)) else (none)) else (if bt288.1 = 1 then (some (bt278.1, bt278.2.1, (-2), bt278.2.2.2.1, bt288.2)) else (if bt288.1 = 2 then ((spec_l1Rd_one.f k s0_0 bt288.2 (([(-1), 42] : List Int))).bind fun bt296 => (if bt278.2.1.length < 5864062014805 then (some (bt278.1, (bt278.2.1 ++ [(⟨bt296.1, (⟨#[]⟩ : ByteArray)⟩ : S70)]), bt278.2.2.1, bt278.2.2.2.1, bt296.2)) else (none))) else (if bt288.1 = 3 then ((spec_l1Many.f k (⟨#[99]⟩ : ByteArray) 1201).bind fun t301 => (if 0 < (bt278.1.length : Int) then (some ((bt278.1.set (0 : Int).toNat t301), bt278.2.1, bt278.2.2.1, bt278.2.2.2.1, bt288.2)) else (none))) else (if bt288.1 = 4 then (some (bt278.1, bt278.2.1, bt278.2.2.1, (-2), bt288.2)) else (if bt288.1 = 5 then (spec_l15AnyDisk.l0 k s0_0 bt288.2 bt278.1 bt278.2.1 bt278.2.2.1 bt278.2.2.2.1) else (some (bt278.1, bt278.2.1, bt278.2.2.1, bt278.2.2.2.1, bt288.2)))))))))) = some (r1, r2, r3, r4, r5) := h
  clear h
  replace H := Option.bind_eq_some_iff.mp H
  obtain ⟨⟨t278, t281, t284, t285, t286⟩, A20, H⟩ := H
  replace H : ((spec_l1Rd_pick.f k s0_0 t286 24).bind fun bt288 => (if bt288.1 = 0 then (if 1 ≤ (t278.length : Int) then (some ((t278.drop (1 : Int).toNat), t281, t284, t285, bt288.2)) else (none)) else (if bt288.1 = 1 then (some (t278, t281, (-2), t285, bt288.2)) else (if bt288.1 = 2 then ((spec_l1Rd_one.f k s0_0 bt288.2 (([(-1), 42] : List Int))).bind fun bt296 => (if t281.length < 5864062014805 then (some (t278, (t281 ++ [(⟨bt296.1, (⟨#[]⟩ : ByteArray)⟩ : S70)]), t284, t285, bt296.2)) else (none))) else (if bt288.1 = 3 then ((spec_l1Many.f k (⟨#[99]⟩ : ByteArray) 1201).bind fun t301 => (if 0 < (t278.length : Int) then (some ((t278.set (0 : Int).toNat t301), t281, t284, t285, bt288.2)) else (none))) else (if bt288.1 = 4 then (some (t278, t281, t284, (-2), bt288.2)) else (if bt288.1 = 5 then (spec_l15AnyDisk.l0 k s0_0 bt288.2 t278 t281 t284 t285) else (some (t278, t281, t284, t285, bt288.2))))))))) = some (r1, r2, r3, r4, r5) := H
  have A2 := Aside0.mk A20
  clear A20
  replace H := Option.bind_eq_some_iff.mp H
  obtain ⟨⟨t288, t289⟩, A30, H⟩ := H
  replace H : (if t288 = 0 then (if 1 ≤ (t278.length : Int) then (some ((t278.drop (1 : Int).toNat), t281, t284, t285, t289)) else (none)) else (if t288 = 1 then (some (t278, t281, (-2), t285, t289)) else (if t288 = 2 then ((spec_l1Rd_one.f k s0_0 t289 (([(-1), 42] : List Int))).bind fun bt296 => (if t281.length < 5864062014805 then (some (t278, (t281 ++ [(⟨bt296.1, (⟨#[]⟩ : ByteArray)⟩ : S70)]), t284, t285, bt296.2)) else (none))) else (if t288 = 3 then ((spec_l1Many.f k (⟨#[99]⟩ : ByteArray) 1201).bind fun t301 => (if 0 < (t278.length : Int) then (some ((t278.set (0 : Int).toNat t301), t281, t284, t285, t289)) else (none))) else (if t288 = 4 then (some (t278, t281, t284, (-2), t289)) else (if t288 = 5 then (spec_l15AnyDisk.l0 k s0_0 t289 t278 t281 t284 t285) else (some (t278, t281, t284, t285, t289)))))))) = some (r1, r2, r3, r4, r5) := H
  have A3 := Aside0.mk A30
  clear A30
  by_cases c4 : t288 = 0
  · rw [if_pos c4] at H
    have c4b0 : (t288 == 0) = true := beq_iff_eq.mpr c4
    have c4b1 : (t288 != 0) = false := bne_eq_false_iff_eq.mpr c4
    clear c4
    by_cases c5 : 1 ≤ (t278.length : Int)
    · rw [if_pos c5] at H
      have c5b0 := eq_true c5
      have c5b1 : decide (1 ≤ (t278.length : Int)) = true := decide_eq_true c5
      clear c5
      obtain ⟨y290, hy290⟩ : ∃ y_ : List ByteArray, y_ = (t278.drop (1 : Int).toNat) := ⟨_, rfl⟩
      replace H : (some (y290, t281, t284, t285, t289)) = some (r1, r2, r3, r4, r5) := by first | (rw [hy290]; with_reducible exact H) | (have H2_ := (Option.bind_some _ _).symm.trans H; rw [hy290]; with_reducible exact H2_) | (have H2_ := (Option.bind_some _ _).symm.trans H; with_reducible exact H2_) | with_reducible exact H | (rw [hy290]; exact H) | exact H
      have Ny290 := Aside0.mk hy290
      clear hy290
      simp only [Option.some.injEq, Prod.mk.injEq] at H
      obtain ⟨rfl, rfl, rfl, rfl, rfl⟩ := H
      go_enter Try.func33, Try.ntmps33
      go_wp2_with (first | ((with_reducible refine qZ (N := 2) rfl ?_); refine qY ?hg (N := 2) ?hd (cs := #[.slice none 0 0, .slice none 0 0, .int .i64 0, .int .i64 0]) (t := 26) ?hr ?_; (case hd => rfl); (case hg => rfl); (case hr => first | (go_simp; done) | (go_simp; rfl)); intro gb277 hg w6 hbox hb; have n0_ := Aside0.mk (IsS83.below (by repeat (first | (with_reducible first | exact HI0.out | apply IsS83.alloc | apply IsS83.drewN | apply IsS83.drew | apply IsS83.set_1) | exact HI0.out)) hb); have n1_ := Aside0.mk (KeepBut.trans (by repeat (first | (with_reducible first | exact HK.out | apply KeepBut.set_ | apply qJ | apply qM | apply qK) | exact HK.out)) (KeepBut.of_below hb g none) (.inl rfl)); have n2_ := Aside0.mk (qQ (by repeat (first | (with_reducible first | exact HB.out | apply qG | apply qD | apply qF | refine qC ?_ (IsS83.ge HI0.out)) | exact HB.out)) hb); have n3_ := Aside0.mk (hbox); have n4_ := Aside0.mk ((by rw [hg]; exact (zA (w := w) (g := g) (row := none) (by repeat (first | (with_reducible first | exact HK.out | apply KeepBut.set_ | apply qJ | apply qM | apply qK) | exact HK.out))) : w.heap.size ≤ gb277)); have n5_ := Aside0.mk ((Nat.le_trans HW0.out (by rw [hg]; exact (zA (w := w) (g := g) (row := none) (by repeat (first | (with_reducible first | exact HK.out | apply KeepBut.set_ | apply qJ | apply qM | apply qK) | exact HK.out))) : w.heap.size ≤ gb277) : w0.heap.size ≤ gb277)); have n6_ := Aside0.mk ((by rw [hg]; exact Nat.ne_of_lt (IsS83.lt (show IsS83 w0 _ g s0_0 s0_1 from by repeat (first | (with_reducible first | exact HI0.out | apply IsS83.alloc | apply IsS83.drewN | apply IsS83.drew | apply IsS83.set_1) | exact HI0.out))) : g ≠ gb277)); have n7_ := Aside0.mk ((by rw [hg]; exact Nat.ne_of_gt (IsS83.lt (show IsS83 w0 _ g s0_0 s0_1 from by repeat (first | (with_reducible first | exact HI0.out | apply IsS83.alloc | apply IsS83.drewN | apply IsS83.drew | apply IsS83.set_1) | exact HI0.out))) : gb277 ≠ g)); clear HI0; clear HK; clear HB; have HI0 := n0_; have HK := n1_; have HB := n2_; have BK277 := n3_; have GW277 := n4_; have GE277 := n5_; have NB0_277 := n6_; have NB277_0 := n7_; clear n0_ n1_ n2_ n3_ n4_ n5_ n6_ n7_; clear hb hbox hg) | ((with_reducible refine qX (f := 65) rfl ?_); refine zM (some 5) rfl rfl Try.func65 (by kernel_rfl) rfl #[.pointer (some ⟨g, 0, none⟩)] rfl (by (try simp only [List.map_toArray, List.map_cons, List.map_nil]); first | done | rfl | (simp only [List.length_drop, List.length_take]; rfl)) ?_; (with_reducible refine (spec_l15Disk.calls k g s0_0 s0_1 t278 t281 t284 t285 t286 w0 _ ?side1 ?side2 A2.out).mono ?_); (case side1 => repeat (first | (with_reducible first | exact HI0.out | apply IsS83.alloc | apply IsS83.drewN | apply IsS83.drew | apply IsS83.set_1 | refine IsS83.far ?_ NB0_277.out _) | exact HI0.out)); (case side2 => repeat (first | (with_reducible first | exact HB.out | apply qG | apply qD | apply qF | refine qC ?_ (IsS83.ge HI0.out) | refine qC ?_ GE277.out) | exact HB.out)); rintro e w7 ⟨v279, v282, rfl, ho0, ho1, hi, hb, hk⟩; refine ⟨_, rfl, ?_⟩; have n0_ := Aside0.mk (KeepBut.blk hk (g' := gb277) (o := .cells #[.slice none 0 0, .slice none 0 0, .int .i64 0, .int .i64 0] 26 (0, 0)) (bw_ BK277.out) NB277_0.out (by simp)); have n1_ := Aside0.mk (Kd.zJ ho0 (zA (w := w) (g := g) (row := none) (by repeat (first | (with_reducible first | exact HK.out | apply KeepBut.set_ | apply qJ | apply qM | apply qK | refine qO ?_ GW277.out _) | exact HK.out)))); have n2_ := Aside0.mk (Kd.zJ ho1 (zA (w := w) (g := g) (row := none) (by repeat (first | (with_reducible first | exact HK.out | apply KeepBut.set_ | apply qJ | apply qM | apply qK | refine qO ?_ GW277.out _) | exact HK.out)))); have n3_ := Aside0.mk (KeepBut.trans (by repeat (first | (with_reducible first | exact HK.out | apply KeepBut.set_ | apply qJ | apply qM | apply qK | refine qO ?_ GW277.out _) | exact HK.out)) hk (.inl rfl)); have n4_ := Aside0.mk (hb); have n5_ := Aside0.mk (hi); clear BK277; clear HK; clear HB; clear HI0; have BK277 := n0_; have HO280 := n1_; have HO283 := n2_; have HK := n3_; have HB := n4_; have HI0 := n5_; clear n0_ n1_ n2_ n3_ n4_ n5_; (try clear hb); (try clear hb2); (try clear hk); (try clear hi); (try clear ho0); (try clear ho1)) | ((with_reducible refine qZ (N := 3) rfl ?_); refine qY ?hg (N := 3) ?hd (cs := #[.slice none 0 0, .slice none 0 0, .int .i64 0, .int .i64 0]) (t := 26) ?hr ?_; (case hd => rfl); (case hg => rfl); (case hr => first | (go_simp; done) | (go_simp; rfl)); intro gb287 hg w8 hbox hb; have n0_ := Aside0.mk (Kd.zB (rw_ HO280.out) hb); have n1_ := Aside0.mk (Kd.zB (rw_ HO283.out) hb); have n2_ := Aside0.mk (IsS83.below (by repeat (first | (with_reducible first | exact HI0.out | apply IsS83.alloc | apply IsS83.drewN | apply IsS83.drew | apply IsS83.set_1 | refine IsS83.far ?_ NB0_277.out _) | exact HI0.out)) hb); have n3_ := Aside0.mk (qL (g := gb277) (o := .cells #[.slice none 0 0, .slice none 0 0, .int .i64 0, .int .i64 0] 26 (0, 0)) (bw_ BK277.out) hb); have n4_ := Aside0.mk (KeepBut.trans (by repeat (first | (with_reducible first | exact HK.out | apply KeepBut.set_ | apply qJ | apply qM | apply qK | refine qO ?_ GW277.out _) | exact HK.out)) (KeepBut.of_below hb g none) (.inl rfl)); have n5_ := Aside0.mk (qQ (by repeat (first | (with_reducible first | exact HB.out | apply qG | apply qD | apply qF | refine qC ?_ (IsS83.ge HI0.out) | refine qC ?_ GE277.out) | exact HB.out)) hb); have n6_ := Aside0.mk (hbox); have n7_ := Aside0.mk ((by rw [hg]; exact (zA (w := w) (g := g) (row := none) (by repeat (first | (with_reducible first | exact HK.out | apply KeepBut.set_ | apply qJ | apply qM | apply qK | refine qO ?_ GW277.out _) | exact HK.out))) : w.heap.size ≤ gb287)); have n8_ := Aside0.mk ((Nat.le_trans HW0.out (by rw [hg]; exact (zA (w := w) (g := g) (row := none) (by repeat (first | (with_reducible first | exact HK.out | apply KeepBut.set_ | apply qJ | apply qM | apply qK | refine qO ?_ GW277.out _) | exact HK.out))) : w.heap.size ≤ gb287) : w0.heap.size ≤ gb287)); have n9_ := Aside0.mk ((by rw [hg]; exact Nat.ne_of_lt (zE (g := gb277) (o := .cells #[.slice none 0 0, .slice none 0 0, .int .i64 0, .int .i64 0] 26 (0, 0)) (bw_ BK277.out)) : gb277 ≠ gb287)); have n10_ := Aside0.mk ((by rw [hg]; exact Nat.ne_of_gt (zE (g := gb277) (o := .cells #[.slice none 0 0, .slice none 0 0, .int .i64 0, .int .i64 0] 26 (0, 0)) (bw_ BK277.out)) : gb287 ≠ gb277)); have n11_ := Aside0.mk ((by rw [hg]; exact Nat.ne_of_lt (IsS83.lt (show IsS83 w0 _ g s0_0 t286 from by repeat (first | (with_reducible first | exact HI0.out | apply IsS83.alloc | apply IsS83.drewN | apply IsS83.drew | apply IsS83.set_1 | refine IsS83.far ?_ NB0_277.out _) | exact HI0.out))) : g ≠ gb287)); have n12_ := Aside0.mk ((by rw [hg]; exact Nat.ne_of_gt (IsS83.lt (show IsS83 w0 _ g s0_0 t286 from by repeat (first | (with_reducible first | exact HI0.out | apply IsS83.alloc | apply IsS83.drewN | apply IsS83.drew | apply IsS83.set_1 | refine IsS83.far ?_ NB0_277.out _) | exact HI0.out))) : gb287 ≠ g)); clear HO280; clear HO283; clear HI0; clear BK277; clear HK; clear HB; have HO280 := n0_; have HO283 := n1_; have HI0 := n2_; have BK277 := n3_; have HK := n4_; have HB := n5_; have BK287 := n6_; have GW287 := n7_; have GE287 := n8_; have NB277_287 := n9_; have NB287_277 := n10_; have NB0_287 := n11_; have NB287_0 := n12_; clear n0_ n1_ n2_ n3_ n4_ n5_ n6_ n7_ n8_ n9_ n10_ n11_ n12_; clear hb hbox hg; obtain ⟨Ao9, co9, eo9⟩ := Kd.zD HO280.out; subst eo9; have hnb10 := NB287_277.out; have hnc10 := NB277_287.out; have hnb11 := NB287_0.out; have hnc11 := NB0_287.out; have hcz12_0 : w8.cell? ⟨gb287, 0, none⟩ = some (.slice none 0 0) := (qA BK287.out 0).trans rfl; have hcz12_1 : w8.cell? ⟨gb287, 1, none⟩ = some (.slice none 0 0) := (qA BK287.out 1).trans rfl; have hcz12_2 : w8.cell? ⟨gb287, 2, none⟩ = some (.int .i64 0) := (qA BK287.out 2).trans rfl; have hcz12_3 : w8.cell? ⟨gb287, 3, none⟩ = some (.int .i64 0) := (qA BK287.out 3).trans rfl; have hfz12_0 := qB BK287.out 0; have hfz12_1 := qB BK287.out 1; have hfz12_2 := qB BK287.out 2; have hfz12_3 := qB BK287.out 3; obtain ⟨Ao13, co13, eo13⟩ := Kd.zD HO283.out; subst eo13) | ((with_reducible refine qX (f := 34) rfl ?_); refine zM (some 7) rfl rfl Try.func34 (by kernel_rfl) rfl #[.pointer (some ⟨g, 0, none⟩), .int .i64 24] rfl (by (try simp only [List.map_toArray, List.map_cons, List.map_nil]); first | done | rfl | (simp only [List.length_drop, List.length_take]; rfl)) ?_; (with_reducible refine (spec_l1Rd_pick.calls k g s0_0 t286 24 t288 t289 w0 _ ?side1 ?side2 A3.out).mono ?_); (case side1 => repeat (first | (with_reducible first | exact HI0.out | apply IsS83.alloc | apply IsS83.drewN | apply IsS83.drew | apply IsS83.set_1 | refine IsS83.far ?_ NB0_277.out _ | refine IsS83.far ?_ NB0_287.out _) | exact HI0.out)); (case side2 => repeat (first | (with_reducible first | exact HB.out | apply qG | apply qD | apply qF | refine qC ?_ (IsS83.ge HI0.out) | refine qC ?_ GE277.out | refine qC ?_ GE287.out) | exact HB.out)); rintro e w14 ⟨rfl, hi, hb, hk⟩; refine ⟨_, rfl, ?_⟩; have n0_ := Aside0.mk (KeepBut.blk hk (g' := gb277) (o := .cells #[.slice none 0 0, .slice none 0 0, .int .i64 0, .int .i64 0] 26 (0, 0)) (by (with_reducible repeat (first | refine qH ?_ _ | refine qI ?_ | refine qE ?_ _)); refine qR ?_ NB277_287.out _; (with_reducible repeat (first | refine qH ?_ _ | refine qI ?_ | refine qE ?_ _)); refine qR ?_ NB277_287.out _; (with_reducible repeat (first | refine qH ?_ _ | refine qI ?_ | refine qE ?_ _)); refine qR ?_ NB277_287.out _; (with_reducible repeat (first | refine qH ?_ _ | refine qI ?_ | refine qE ?_ _)); refine qR ?_ NB277_287.out _; (with_reducible repeat (first | refine qH ?_ _ | refine qI ?_ | refine qE ?_ _)); exact BK277.out) NB277_0.out (by simp)); have n1_ := Aside0.mk (Kd.qS (Kd.zN (IsS83.apart (show IsS83 w0 _ g s0_0 t286 from by repeat (first | (with_reducible first | exact HI0.out | apply IsS83.alloc | apply IsS83.drewN | apply IsS83.drew | apply IsS83.set_1 | refine IsS83.far ?_ NB0_277.out _ | refine IsS83.far ?_ NB0_287.out _) | exact HI0.out)) (by (with_reducible repeat (first | apply Kd.qU | apply Kd.qT | apply Kd.qV)); exact (Kd.qS (Kd.R_far (p := ⟨gb287, 3, none⟩) (Kd.R_far (p := ⟨gb287, 2, none⟩) (Kd.R_far (p := ⟨gb287, 1, none⟩) (Kd.R_far (p := ⟨gb287, 0, none⟩) (Kd.qW HO280.out BK287.out (by decide)) (fun _ hk => hk.2) (.slice Ao9 t278.length co9)) (fun _ hk => hk.2) (.slice Ao13 t281.length co13)) (fun _ hk => hk.2) (.int .i64 t284)) (fun _ hk => hk.2) (.int .i64 t285)) (fun _ h_ => h_.1))) (by decide)) hk (fun _ h => h.2)) (fun _ h => h.1)); have n2_ := Aside0.mk (Kd.qS (Kd.zN (IsS83.apart (show IsS83 w0 _ g s0_0 t286 from by repeat (first | (with_reducible first | exact HI0.out | apply IsS83.alloc | apply IsS83.drewN | apply IsS83.drew | apply IsS83.set_1 | refine IsS83.far ?_ NB0_277.out _ | refine IsS83.far ?_ NB0_287.out _) | exact HI0.out)) (by (with_reducible repeat (first | apply Kd.qU | apply Kd.qT | apply Kd.qV)); exact (Kd.qS (Kd.R_far (p := ⟨gb287, 3, none⟩) (Kd.R_far (p := ⟨gb287, 2, none⟩) (Kd.R_far (p := ⟨gb287, 1, none⟩) (Kd.R_far (p := ⟨gb287, 0, none⟩) (Kd.qW HO283.out BK287.out (by decide)) (fun _ hk => hk.2) (.slice Ao9 t278.length co9)) (fun _ hk => hk.2) (.slice Ao13 t281.length co13)) (fun _ hk => hk.2) (.int .i64 t284)) (fun _ hk => hk.2) (.int .i64 t285)) (fun _ h_ => h_.1))) (by decide)) hk (fun _ h => h.2)) (fun _ h => h.1)); have n3_ := Aside0.mk (KeepBut.blk hk (g' := gb287) (o := .cells #[.slice Ao9 t278.length co9, .slice Ao13 t281.length co13, .int .i64 t284, .int .i64 t285] 26 (0, 0)) (by (with_reducible repeat (first | refine qH ?_ _ | refine qI ?_ | refine qE ?_ _)); refine qN (cs := #[.slice Ao9 t278.length co9, .slice Ao13 t281.length co13, .int .i64 t284, .int .i64 0]) ?_ 3 _ rfl; (with_reducible repeat (first | refine qH ?_ _ | refine qI ?_ | refine qE ?_ _)); refine qN (cs := #[.slice Ao9 t278.length co9, .slice Ao13 t281.length co13, .int .i64 0, .int .i64 0]) ?_ 2 _ rfl; (with_reducible repeat (first | refine qH ?_ _ | refine qI ?_ | refine qE ?_ _)); refine qN (cs := #[.slice Ao9 t278.length co9, .slice none 0 0, .int .i64 0, .int .i64 0]) ?_ 1 _ rfl; (with_reducible repeat (first | refine qH ?_ _ | refine qI ?_ | refine qE ?_ _)); refine qN (cs := #[.slice none 0 0, .slice none 0 0, .int .i64 0, .int .i64 0]) ?_ 0 _ rfl; (with_reducible repeat (first | refine qH ?_ _ | refine qI ?_ | refine qE ?_ _)); exact BK287.out) NB287_0.out (by simp)); have n4_ := Aside0.mk (KeepBut.trans (by repeat (first | (with_reducible first | exact HK.out | apply KeepBut.set_ | apply qJ | apply qM | apply qK | refine qO ?_ GW277.out _ | refine qO ?_ GW287.out _) | exact HK.out)) hk (.inl rfl)); have n5_ := Aside0.mk (hb); have n6_ := Aside0.mk (hi); clear BK277; clear HO280; clear HO283; clear BK287; clear HK; clear HB; clear HI0; have BK277 := n0_; have HO280 := n1_; have HO283 := n2_; have BK287 := n3_; have HK := n4_; have HB := n5_; have HI0 := n6_; clear n0_ n1_ n2_ n3_ n4_ n5_ n6_; (try clear hb); (try clear hb2); (try clear hk); (try clear hi); have hcz15_0 : w14.cell? ⟨gb287, 0, none⟩ = some (.slice Ao9 t278.length co9) := (qA BK287.out 0).trans rfl; have hcz15_1 : w14.cell? ⟨gb287, 1, none⟩ = some (.slice Ao13 t281.length co13) := (qA BK287.out 1).trans rfl; have hcz15_2 : w14.cell? ⟨gb287, 2, none⟩ = some (.int .i64 t284) := (qA BK287.out 2).trans rfl; have hcz15_3 : w14.cell? ⟨gb287, 3, none⟩ = some (.int .i64 t285) := (qA BK287.out 3).trans rfl; have hfz15_0 := qB BK287.out 0; have hfz15_1 := qB BK287.out 1; have hfz15_2 := qB BK287.out 2; have hfz15_3 := qB BK287.out 3; have q16 : (1 : Int) ≤ ((t278.length : Int) : Int) := of_decide_eq_true (by first | (with_reducible assumption) | assumption); obtain ⟨i016, hi016, _, hsz16, _⟩ := info_parts info9; have hcut16 := cut_from (P := Try.prog) 23 9 .i64 Try.underlying23 hi016 1 hsz16 Ao9 t278.length co9 1 (by omega) q16; have hr16 := Kd.Q_drop (k := (1 : Int).toNat) (Kd.Q_of_R HO280.out) (by omega); obtain ⟨A16, hA16⟩ : ∃ A1, A1 = (if co9 = (1 : Int).toNat then Ao9 else (Ao9 : Option Addr).map (·.add ((1 : Int).toNat * 1))) := ⟨_, rfl⟩; obtain ⟨c16, hc16⟩ : ∃ c1, c1 = co9 - (1 : Int).toNat := ⟨_, rfl⟩; have hy16 : y290.length = t278.length - (1 : Int).toNat := (by rw [Ny290.out, List.length_drop]); rw [← Ny290.out] at hr16; rw [← hy16, ← hA16, ← hc16] at hcut16; replace hr16 : Kd.Q Kd.string 9 w14 w.heap.size (fun _ => True) (.slice A16 y290.length c16) y290 := (by rw [hA16, hc16, hy16]; exact hr16); have HE16 : Aside0 ((Value.slice A16 y290.length c16).ownBlock = (.slice Ao9 t278.length co9 : Value).ownBlock) := ⟨by rw [hA16]; split <;> (cases (Ao9 : Option Addr) <;> rfl)⟩; clear hy16 hi016 hsz16 HO280 hA16 hc16; have HO292 := Aside0.mk hr16; clear hr16; replace q16 := eq_true q16; have hnb17 := NB277_0.out; have hnc17 := NB0_277.out; have hcz18_0 : w14.cell? ⟨gb277, 0, none⟩ = some (.slice none 0 0) := (qA BK277.out 0).trans rfl; have hcz18_1 : w14.cell? ⟨gb277, 1, none⟩ = some (.slice none 0 0) := (qA BK277.out 1).trans rfl; have hcz18_2 : w14.cell? ⟨gb277, 2, none⟩ = some (.int .i64 0) := (qA BK277.out 2).trans rfl; have hcz18_3 : w14.cell? ⟨gb277, 3, none⟩ = some (.int .i64 0) := (qA BK277.out 3).trans rfl; have hfz18_0 := qB BK277.out 0; have hfz18_1 := qB BK277.out 1; have hfz18_2 := qB BK277.out 2; have hfz18_3 := qB BK277.out 3))
      refine bodyPost_ret (results_cell_row rfl _ _ gb277 26 #[.slice A16 y290.length c16, .slice Ao13 t281.length co13, .int .i64 t284, .int .i64 t285] (0, 0) _ rfl (by (with_reducible repeat (first | refine qH ?_ _ | refine qI ?_ | refine qE ?_ _)); refine qN (cs := #[.slice A16 y290.length c16, .slice Ao13 t281.length co13, .int .i64 t284, .int .i64 0]) ?_ 3 _ rfl; (with_reducible repeat (first | refine qH ?_ _ | refine qI ?_ | refine qE ?_ _)); refine qN (cs := #[.slice A16 y290.length c16, .slice Ao13 t281.length co13, .int .i64 0, .int .i64 0]) ?_ 2 _ rfl; (with_reducible repeat (first | refine qH ?_ _ | refine qI ?_ | refine qE ?_ _)); refine qN (cs := #[.slice A16 y290.length c16, .slice none 0 0, .int .i64 0, .int .i64 0]) ?_ 1 _ rfl; (with_reducible repeat (first | refine qH ?_ _ | refine qI ?_ | refine qE ?_ _)); refine qN (cs := #[.slice none 0 0, .slice none 0 0, .int .i64 0, .int .i64 0]) ?_ 0 _ rfl; (with_reducible repeat (first | refine qH ?_ _ | refine qI ?_ | refine qE ?_ _)); refine qR ?_ NB277_287.out _; (with_reducible repeat (first | refine qH ?_ _ | refine qI ?_ | refine qE ?_ _)); exact BK277.out) Try.underlying26 rfl (by kernel_rfl)) rfl ?_
      exact ⟨_, _, by first | rfl | (simp [errW_none, errW_some] <;> rfl) | (simp [*, errW_none, errW_some] <;> rfl), by (with_reducible repeat (first | apply Kd.zS | apply Kd.zT | apply Kd.zP)); exact Kd.zU (Kd.Q_far (p := ⟨gb277, 3, none⟩) (Kd.Q_far (p := ⟨gb277, 2, none⟩) (Kd.Q_far (p := ⟨gb277, 1, none⟩) (Kd.Q_far (p := ⟨gb277, 0, none⟩) (Kd.Q_far (p := ⟨gb287, 0, none⟩) (Kd.zZ (Kd.zZ HO292.out BK287.out (by decide)) BK277.out (by decide)) (fun _ hk => hk.1.2) (.slice A16 y290.length c16)) (fun _ hk => hk.2) (.slice A16 y290.length c16)) (fun _ hk => hk.2) (.slice Ao13 t281.length co13)) (fun _ hk => hk.2) (.int .i64 t284)) (fun _ hk => hk.2) (.int .i64 t285)) (fun _ hk => trivial), by (with_reducible repeat (first | apply Kd.qU | apply Kd.qT | apply Kd.qV)); exact Kd.qS (Kd.R_far (p := ⟨gb277, 3, none⟩) (Kd.R_far (p := ⟨gb277, 2, none⟩) (Kd.R_far (p := ⟨gb277, 1, none⟩) (Kd.R_far (p := ⟨gb277, 0, none⟩) (Kd.R_far (p := ⟨gb287, 0, none⟩) (Kd.qW (Kd.qW HO283.out BK287.out (by decide)) BK277.out (by decide)) (fun _ hk => hk.1.2) (.slice A16 y290.length c16)) (fun _ hk => hk.2) (.slice A16 y290.length c16)) (fun _ hk => hk.2) (.slice Ao13 t281.length co13)) (fun _ hk => hk.2) (.int .i64 t284)) (fun _ hk => hk.2) (.int .i64 t285)) (fun _ hk => trivial), by repeat (first | (with_reducible first | exact HI0.out | apply IsS83.alloc | apply IsS83.drewN | apply IsS83.drew | apply IsS83.set_1 | refine IsS83.far ?_ NB0_277.out _ | refine IsS83.far ?_ NB0_287.out _) | exact HI0.out), by repeat (first | (with_reducible first | exact HB.out | apply qG | apply qD | apply qF | refine qC ?_ (IsS83.ge HI0.out) | refine qC ?_ GE277.out | refine qC ?_ GE287.out) | exact HB.out), by repeat (first | (with_reducible first | exact HK.out | apply KeepBut.set_ | apply qJ | apply qM | apply qK | refine qO ?_ GW277.out _ | refine qO ?_ GW287.out _) | exact HK.out)⟩
    · rw [if_neg c5] at H
      exact absurd H (by simp)
  · rw [if_neg c4] at H
    have c4b0 : (t288 == 0) = false := beq_eq_false_iff_ne.mpr c4
    have c4b1 : (t288 != 0) = true := bne_iff_ne.mpr c4
    by_cases c19 : t288 = 1
    · rw [if_pos c19] at H
      have c19b0 : (t288 == 1) = true := beq_iff_eq.mpr c19
      have c19b1 : (t288 != 1) = false := bne_eq_false_iff_eq.mpr c19
      clear c19
      simp only [Option.some.injEq, Prod.mk.injEq] at H
      obtain ⟨rfl, rfl, rfl, rfl, rfl⟩ := H
      go_enter Try.func33, Try.ntmps33
      go_wp2_with (first | ((with_reducible refine qZ (N := 2) rfl ?_); refine qY ?hg (N := 2) ?hd (cs := #[.slice none 0 0, .slice none 0 0, .int .i64 0, .int .i64 0]) (t := 26) ?hr ?_; (case hd => rfl); (case hg => rfl); (case hr => first | (go_simp; done) | (go_simp; rfl)); intro gb277 hg w20 hbox hb; have n0_ := Aside0.mk (IsS83.below (by repeat (first | (with_reducible first | exact HI0.out | apply IsS83.alloc | apply IsS83.drewN | apply IsS83.drew | apply IsS83.set_1) | exact HI0.out)) hb); have n1_ := Aside0.mk (KeepBut.trans (by repeat (first | (with_reducible first | exact HK.out | apply KeepBut.set_ | apply qJ | apply qM | apply qK) | exact HK.out)) (KeepBut.of_below hb g none) (.inl rfl)); have n2_ := Aside0.mk (qQ (by repeat (first | (with_reducible first | exact HB.out | apply qG | apply qD | apply qF | refine qC ?_ (IsS83.ge HI0.out)) | exact HB.out)) hb); have n3_ := Aside0.mk (hbox); have n4_ := Aside0.mk ((by rw [hg]; exact (zA (w := w) (g := g) (row := none) (by repeat (first | (with_reducible first | exact HK.out | apply KeepBut.set_ | apply qJ | apply qM | apply qK) | exact HK.out))) : w.heap.size ≤ gb277)); have n5_ := Aside0.mk ((Nat.le_trans HW0.out (by rw [hg]; exact (zA (w := w) (g := g) (row := none) (by repeat (first | (with_reducible first | exact HK.out | apply KeepBut.set_ | apply qJ | apply qM | apply qK) | exact HK.out))) : w.heap.size ≤ gb277) : w0.heap.size ≤ gb277)); have n6_ := Aside0.mk ((by rw [hg]; exact Nat.ne_of_lt (IsS83.lt (show IsS83 w0 _ g s0_0 s0_1 from by repeat (first | (with_reducible first | exact HI0.out | apply IsS83.alloc | apply IsS83.drewN | apply IsS83.drew | apply IsS83.set_1) | exact HI0.out))) : g ≠ gb277)); have n7_ := Aside0.mk ((by rw [hg]; exact Nat.ne_of_gt (IsS83.lt (show IsS83 w0 _ g s0_0 s0_1 from by repeat (first | (with_reducible first | exact HI0.out | apply IsS83.alloc | apply IsS83.drewN | apply IsS83.drew | apply IsS83.set_1) | exact HI0.out))) : gb277 ≠ g)); clear HI0; clear HK; clear HB; have HI0 := n0_; have HK := n1_; have HB := n2_; have BK277 := n3_; have GW277 := n4_; have GE277 := n5_; have NB0_277 := n6_; have NB277_0 := n7_; clear n0_ n1_ n2_ n3_ n4_ n5_ n6_ n7_; clear hb hbox hg) | ((with_reducible refine qX (f := 65) rfl ?_); refine zM (some 5) rfl rfl Try.func65 (by kernel_rfl) rfl #[.pointer (some ⟨g, 0, none⟩)] rfl (by (try simp only [List.map_toArray, List.map_cons, List.map_nil]); first | done | rfl | (simp only [List.length_drop, List.length_take]; rfl)) ?_; (with_reducible refine (spec_l15Disk.calls k g s0_0 s0_1 t278 t281 t284 t285 t286 w0 _ ?side1 ?side2 A2.out).mono ?_); (case side1 => repeat (first | (with_reducible first | exact HI0.out | apply IsS83.alloc | apply IsS83.drewN | apply IsS83.drew | apply IsS83.set_1 | refine IsS83.far ?_ NB0_277.out _) | exact HI0.out)); (case side2 => repeat (first | (with_reducible first | exact HB.out | apply qG | apply qD | apply qF | refine qC ?_ (IsS83.ge HI0.out) | refine qC ?_ GE277.out) | exact HB.out)); rintro e w21 ⟨v279, v282, rfl, ho0, ho1, hi, hb, hk⟩; refine ⟨_, rfl, ?_⟩; have n0_ := Aside0.mk (KeepBut.blk hk (g' := gb277) (o := .cells #[.slice none 0 0, .slice none 0 0, .int .i64 0, .int .i64 0] 26 (0, 0)) (bw_ BK277.out) NB277_0.out (by simp)); have n1_ := Aside0.mk (Kd.zJ ho0 (zA (w := w) (g := g) (row := none) (by repeat (first | (with_reducible first | exact HK.out | apply KeepBut.set_ | apply qJ | apply qM | apply qK | refine qO ?_ GW277.out _) | exact HK.out)))); have n2_ := Aside0.mk (Kd.zJ ho1 (zA (w := w) (g := g) (row := none) (by repeat (first | (with_reducible first | exact HK.out | apply KeepBut.set_ | apply qJ | apply qM | apply qK | refine qO ?_ GW277.out _) | exact HK.out)))); have n3_ := Aside0.mk (KeepBut.trans (by repeat (first | (with_reducible first | exact HK.out | apply KeepBut.set_ | apply qJ | apply qM | apply qK | refine qO ?_ GW277.out _) | exact HK.out)) hk (.inl rfl)); have n4_ := Aside0.mk (hb); have n5_ := Aside0.mk (hi); clear BK277; clear HK; clear HB; clear HI0; have BK277 := n0_; have HO280 := n1_; have HO283 := n2_; have HK := n3_; have HB := n4_; have HI0 := n5_; clear n0_ n1_ n2_ n3_ n4_ n5_; (try clear hb); (try clear hb2); (try clear hk); (try clear hi); (try clear ho0); (try clear ho1)) | ((with_reducible refine qZ (N := 3) rfl ?_); refine qY ?hg (N := 3) ?hd (cs := #[.slice none 0 0, .slice none 0 0, .int .i64 0, .int .i64 0]) (t := 26) ?hr ?_; (case hd => rfl); (case hg => rfl); (case hr => first | (go_simp; done) | (go_simp; rfl)); intro gb287 hg w22 hbox hb; have n0_ := Aside0.mk (Kd.zB (rw_ HO280.out) hb); have n1_ := Aside0.mk (Kd.zB (rw_ HO283.out) hb); have n2_ := Aside0.mk (IsS83.below (by repeat (first | (with_reducible first | exact HI0.out | apply IsS83.alloc | apply IsS83.drewN | apply IsS83.drew | apply IsS83.set_1 | refine IsS83.far ?_ NB0_277.out _) | exact HI0.out)) hb); have n3_ := Aside0.mk (qL (g := gb277) (o := .cells #[.slice none 0 0, .slice none 0 0, .int .i64 0, .int .i64 0] 26 (0, 0)) (bw_ BK277.out) hb); have n4_ := Aside0.mk (KeepBut.trans (by repeat (first | (with_reducible first | exact HK.out | apply KeepBut.set_ | apply qJ | apply qM | apply qK | refine qO ?_ GW277.out _) | exact HK.out)) (KeepBut.of_below hb g none) (.inl rfl)); have n5_ := Aside0.mk (qQ (by repeat (first | (with_reducible first | exact HB.out | apply qG | apply qD | apply qF | refine qC ?_ (IsS83.ge HI0.out) | refine qC ?_ GE277.out) | exact HB.out)) hb); have n6_ := Aside0.mk (hbox); have n7_ := Aside0.mk ((by rw [hg]; exact (zA (w := w) (g := g) (row := none) (by repeat (first | (with_reducible first | exact HK.out | apply KeepBut.set_ | apply qJ | apply qM | apply qK | refine qO ?_ GW277.out _) | exact HK.out))) : w.heap.size ≤ gb287)); have n8_ := Aside0.mk ((Nat.le_trans HW0.out (by rw [hg]; exact (zA (w := w) (g := g) (row := none) (by repeat (first | (with_reducible first | exact HK.out | apply KeepBut.set_ | apply qJ | apply qM | apply qK | refine qO ?_ GW277.out _) | exact HK.out))) : w.heap.size ≤ gb287) : w0.heap.size ≤ gb287)); have n9_ := Aside0.mk ((by rw [hg]; exact Nat.ne_of_lt (zE (g := gb277) (o := .cells #[.slice none 0 0, .slice none 0 0, .int .i64 0, .int .i64 0] 26 (0, 0)) (bw_ BK277.out)) : gb277 ≠ gb287)); have n10_ := Aside0.mk ((by rw [hg]; exact Nat.ne_of_gt (zE (g := gb277) (o := .cells #[.slice none 0 0, .slice none 0 0, .int .i64 0, .int .i64 0] 26 (0, 0)) (bw_ BK277.out)) : gb287 ≠ gb277)); have n11_ := Aside0.mk ((by rw [hg]; exact Nat.ne_of_lt (IsS83.lt (show IsS83 w0 _ g s0_0 t286 from by repeat (first | (with_reducible first | exact HI0.out | apply IsS83.alloc | apply IsS83.drewN | apply IsS83.drew | apply IsS83.set_1 | refine IsS83.far ?_ NB0_277.out _) | exact HI0.out))) : g ≠ gb287)); have n12_ := Aside0.mk ((by rw [hg]; exact Nat.ne_of_gt (IsS83.lt (show IsS83 w0 _ g s0_0 t286 from by repeat (first | (with_reducible first | exact HI0.out | apply IsS83.alloc | apply IsS83.drewN | apply IsS83.drew | apply IsS83.set_1 | refine IsS83.far ?_ NB0_277.out _) | exact HI0.out))) : gb287 ≠ g)); clear HO280; clear HO283; clear HI0; clear BK277; clear HK; clear HB; have HO280 := n0_; have HO283 := n1_; have HI0 := n2_; have BK277 := n3_; have HK := n4_; have HB := n5_; have BK287 := n6_; have GW287 := n7_; have GE287 := n8_; have NB277_287 := n9_; have NB287_277 := n10_; have NB0_287 := n11_; have NB287_0 := n12_; clear n0_ n1_ n2_ n3_ n4_ n5_ n6_ n7_ n8_ n9_ n10_ n11_ n12_; clear hb hbox hg; obtain ⟨Ao23, co23, eo23⟩ := Kd.zD HO280.out; subst eo23; have hnb24 := NB287_277.out; have hnc24 := NB277_287.out; have hnb25 := NB287_0.out; have hnc25 := NB0_287.out; have hcz26_0 : w22.cell? ⟨gb287, 0, none⟩ = some (.slice none 0 0) := (qA BK287.out 0).trans rfl; have hcz26_1 : w22.cell? ⟨gb287, 1, none⟩ = some (.slice none 0 0) := (qA BK287.out 1).trans rfl; have hcz26_2 : w22.cell? ⟨gb287, 2, none⟩ = some (.int .i64 0) := (qA BK287.out 2).trans rfl; have hcz26_3 : w22.cell? ⟨gb287, 3, none⟩ = some (.int .i64 0) := (qA BK287.out 3).trans rfl; have hfz26_0 := qB BK287.out 0; have hfz26_1 := qB BK287.out 1; have hfz26_2 := qB BK287.out 2; have hfz26_3 := qB BK287.out 3; obtain ⟨Ao27, co27, eo27⟩ := Kd.zD HO283.out; subst eo27) | ((with_reducible refine qX (f := 34) rfl ?_); refine zM (some 7) rfl rfl Try.func34 (by kernel_rfl) rfl #[.pointer (some ⟨g, 0, none⟩), .int .i64 24] rfl (by (try simp only [List.map_toArray, List.map_cons, List.map_nil]); first | done | rfl | (simp only [List.length_drop, List.length_take]; rfl)) ?_; (with_reducible refine (spec_l1Rd_pick.calls k g s0_0 t286 24 t288 t289 w0 _ ?side1 ?side2 A3.out).mono ?_); (case side1 => repeat (first | (with_reducible first | exact HI0.out | apply IsS83.alloc | apply IsS83.drewN | apply IsS83.drew | apply IsS83.set_1 | refine IsS83.far ?_ NB0_277.out _ | refine IsS83.far ?_ NB0_287.out _) | exact HI0.out)); (case side2 => repeat (first | (with_reducible first | exact HB.out | apply qG | apply qD | apply qF | refine qC ?_ (IsS83.ge HI0.out) | refine qC ?_ GE277.out | refine qC ?_ GE287.out) | exact HB.out)); rintro e w28 ⟨rfl, hi, hb, hk⟩; refine ⟨_, rfl, ?_⟩; have n0_ := Aside0.mk (KeepBut.blk hk (g' := gb277) (o := .cells #[.slice none 0 0, .slice none 0 0, .int .i64 0, .int .i64 0] 26 (0, 0)) (by (with_reducible repeat (first | refine qH ?_ _ | refine qI ?_ | refine qE ?_ _)); refine qR ?_ NB277_287.out _; (with_reducible repeat (first | refine qH ?_ _ | refine qI ?_ | refine qE ?_ _)); refine qR ?_ NB277_287.out _; (with_reducible repeat (first | refine qH ?_ _ | refine qI ?_ | refine qE ?_ _)); refine qR ?_ NB277_287.out _; (with_reducible repeat (first | refine qH ?_ _ | refine qI ?_ | refine qE ?_ _)); refine qR ?_ NB277_287.out _; (with_reducible repeat (first | refine qH ?_ _ | refine qI ?_ | refine qE ?_ _)); exact BK277.out) NB277_0.out (by simp)); have n1_ := Aside0.mk (Kd.qS (Kd.zN (IsS83.apart (show IsS83 w0 _ g s0_0 t286 from by repeat (first | (with_reducible first | exact HI0.out | apply IsS83.alloc | apply IsS83.drewN | apply IsS83.drew | apply IsS83.set_1 | refine IsS83.far ?_ NB0_277.out _ | refine IsS83.far ?_ NB0_287.out _) | exact HI0.out)) (by (with_reducible repeat (first | apply Kd.qU | apply Kd.qT | apply Kd.qV)); exact (Kd.qS (Kd.R_far (p := ⟨gb287, 3, none⟩) (Kd.R_far (p := ⟨gb287, 2, none⟩) (Kd.R_far (p := ⟨gb287, 1, none⟩) (Kd.R_far (p := ⟨gb287, 0, none⟩) (Kd.qW HO280.out BK287.out (by decide)) (fun _ hk => hk.2) (.slice Ao23 t278.length co23)) (fun _ hk => hk.2) (.slice Ao27 t281.length co27)) (fun _ hk => hk.2) (.int .i64 t284)) (fun _ hk => hk.2) (.int .i64 t285)) (fun _ h_ => h_.1))) (by decide)) hk (fun _ h => h.2)) (fun _ h => h.1)); have n2_ := Aside0.mk (Kd.qS (Kd.zN (IsS83.apart (show IsS83 w0 _ g s0_0 t286 from by repeat (first | (with_reducible first | exact HI0.out | apply IsS83.alloc | apply IsS83.drewN | apply IsS83.drew | apply IsS83.set_1 | refine IsS83.far ?_ NB0_277.out _ | refine IsS83.far ?_ NB0_287.out _) | exact HI0.out)) (by (with_reducible repeat (first | apply Kd.qU | apply Kd.qT | apply Kd.qV)); exact (Kd.qS (Kd.R_far (p := ⟨gb287, 3, none⟩) (Kd.R_far (p := ⟨gb287, 2, none⟩) (Kd.R_far (p := ⟨gb287, 1, none⟩) (Kd.R_far (p := ⟨gb287, 0, none⟩) (Kd.qW HO283.out BK287.out (by decide)) (fun _ hk => hk.2) (.slice Ao23 t278.length co23)) (fun _ hk => hk.2) (.slice Ao27 t281.length co27)) (fun _ hk => hk.2) (.int .i64 t284)) (fun _ hk => hk.2) (.int .i64 t285)) (fun _ h_ => h_.1))) (by decide)) hk (fun _ h => h.2)) (fun _ h => h.1)); have n3_ := Aside0.mk (KeepBut.blk hk (g' := gb287) (o := .cells #[.slice Ao23 t278.length co23, .slice Ao27 t281.length co27, .int .i64 t284, .int .i64 t285] 26 (0, 0)) (by (with_reducible repeat (first | refine qH ?_ _ | refine qI ?_ | refine qE ?_ _)); refine qN (cs := #[.slice Ao23 t278.length co23, .slice Ao27 t281.length co27, .int .i64 t284, .int .i64 0]) ?_ 3 _ rfl; (with_reducible repeat (first | refine qH ?_ _ | refine qI ?_ | refine qE ?_ _)); refine qN (cs := #[.slice Ao23 t278.length co23, .slice Ao27 t281.length co27, .int .i64 0, .int .i64 0]) ?_ 2 _ rfl; (with_reducible repeat (first | refine qH ?_ _ | refine qI ?_ | refine qE ?_ _)); refine qN (cs := #[.slice Ao23 t278.length co23, .slice none 0 0, .int .i64 0, .int .i64 0]) ?_ 1 _ rfl; (with_reducible repeat (first | refine qH ?_ _ | refine qI ?_ | refine qE ?_ _)); refine qN (cs := #[.slice none 0 0, .slice none 0 0, .int .i64 0, .int .i64 0]) ?_ 0 _ rfl; (with_reducible repeat (first | refine qH ?_ _ | refine qI ?_ | refine qE ?_ _)); exact BK287.out) NB287_0.out (by simp)); have n4_ := Aside0.mk (KeepBut.trans (by repeat (first | (with_reducible first | exact HK.out | apply KeepBut.set_ | apply qJ | apply qM | apply qK | refine qO ?_ GW277.out _ | refine qO ?_ GW287.out _) | exact HK.out)) hk (.inl rfl)); have n5_ := Aside0.mk (hb); have n6_ := Aside0.mk (hi); clear BK277; clear HO280; clear HO283; clear BK287; clear HK; clear HB; clear HI0; have BK277 := n0_; have HO280 := n1_; have HO283 := n2_; have BK287 := n3_; have HK := n4_; have HB := n5_; have HI0 := n6_; clear n0_ n1_ n2_ n3_ n4_ n5_ n6_; (try clear hb); (try clear hb2); (try clear hk); (try clear hi); have hcz29_0 : w28.cell? ⟨gb287, 0, none⟩ = some (.slice Ao23 t278.length co23) := (qA BK287.out 0).trans rfl; have hcz29_1 : w28.cell? ⟨gb287, 1, none⟩ = some (.slice Ao27 t281.length co27) := (qA BK287.out 1).trans rfl; have hcz29_2 : w28.cell? ⟨gb287, 2, none⟩ = some (.int .i64 t284) := (qA BK287.out 2).trans rfl; have hcz29_3 : w28.cell? ⟨gb287, 3, none⟩ = some (.int .i64 t285) := (qA BK287.out 3).trans rfl; have hfz29_0 := qB BK287.out 0; have hfz29_1 := qB BK287.out 1; have hfz29_2 := qB BK287.out 2; have hfz29_3 := qB BK287.out 3; have hnb30 := NB277_0.out; have hnc30 := NB0_277.out; have hcz31_0 : w28.cell? ⟨gb277, 0, none⟩ = some (.slice none 0 0) := (qA BK277.out 0).trans rfl; have hcz31_1 : w28.cell? ⟨gb277, 1, none⟩ = some (.slice none 0 0) := (qA BK277.out 1).trans rfl; have hcz31_2 : w28.cell? ⟨gb277, 2, none⟩ = some (.int .i64 0) := (qA BK277.out 2).trans rfl; have hcz31_3 : w28.cell? ⟨gb277, 3, none⟩ = some (.int .i64 0) := (qA BK277.out 3).trans rfl; have hfz31_0 := qB BK277.out 0; have hfz31_1 := qB BK277.out 1; have hfz31_2 := qB BK277.out 2; have hfz31_3 := qB BK277.out 3))
      refine bodyPost_ret (results_cell_row rfl _ _ gb277 26 #[.slice Ao23 t278.length co23, .slice Ao27 t281.length co27, .int .i64 (-2), .int .i64 t285] (0, 0) _ rfl (by (with_reducible repeat (first | refine qH ?_ _ | refine qI ?_ | refine qE ?_ _)); refine qN (cs := #[.slice Ao23 t278.length co23, .slice Ao27 t281.length co27, .int .i64 (-2), .int .i64 0]) ?_ 3 _ rfl; (with_reducible repeat (first | refine qH ?_ _ | refine qI ?_ | refine qE ?_ _)); refine qN (cs := #[.slice Ao23 t278.length co23, .slice Ao27 t281.length co27, .int .i64 0, .int .i64 0]) ?_ 2 _ rfl; (with_reducible repeat (first | refine qH ?_ _ | refine qI ?_ | refine qE ?_ _)); refine qN (cs := #[.slice Ao23 t278.length co23, .slice none 0 0, .int .i64 0, .int .i64 0]) ?_ 1 _ rfl; (with_reducible repeat (first | refine qH ?_ _ | refine qI ?_ | refine qE ?_ _)); refine qN (cs := #[.slice none 0 0, .slice none 0 0, .int .i64 0, .int .i64 0]) ?_ 0 _ rfl; (with_reducible repeat (first | refine qH ?_ _ | refine qI ?_ | refine qE ?_ _)); refine qR ?_ NB277_287.out _; (with_reducible repeat (first | refine qH ?_ _ | refine qI ?_ | refine qE ?_ _)); exact BK277.out) Try.underlying26 rfl (by kernel_rfl)) rfl ?_
      exact ⟨_, _, by first | rfl | (simp [errW_none, errW_some] <;> rfl) | (simp [*, errW_none, errW_some] <;> rfl), Kd.Q_of_R (by (with_reducible repeat (first | apply Kd.qU | apply Kd.qT | apply Kd.qV)); exact Kd.qS (Kd.R_far (p := ⟨gb277, 3, none⟩) (Kd.R_far (p := ⟨gb277, 2, none⟩) (Kd.R_far (p := ⟨gb277, 1, none⟩) (Kd.R_far (p := ⟨gb277, 0, none⟩) (Kd.R_far (p := ⟨gb287, 2, none⟩) (Kd.qW (Kd.qW HO280.out BK287.out (by decide)) BK277.out (by decide)) (fun _ hk => hk.1.2) (.int .i64 (-2))) (fun _ hk => hk.2) (.slice Ao23 t278.length co23)) (fun _ hk => hk.2) (.slice Ao27 t281.length co27)) (fun _ hk => hk.2) (.int .i64 (-2))) (fun _ hk => hk.2) (.int .i64 t285)) (fun _ hk => trivial)), by (with_reducible repeat (first | apply Kd.qU | apply Kd.qT | apply Kd.qV)); exact Kd.qS (Kd.R_far (p := ⟨gb277, 3, none⟩) (Kd.R_far (p := ⟨gb277, 2, none⟩) (Kd.R_far (p := ⟨gb277, 1, none⟩) (Kd.R_far (p := ⟨gb277, 0, none⟩) (Kd.R_far (p := ⟨gb287, 2, none⟩) (Kd.qW (Kd.qW HO283.out BK287.out (by decide)) BK277.out (by decide)) (fun _ hk => hk.1.2) (.int .i64 (-2))) (fun _ hk => hk.2) (.slice Ao23 t278.length co23)) (fun _ hk => hk.2) (.slice Ao27 t281.length co27)) (fun _ hk => hk.2) (.int .i64 (-2))) (fun _ hk => hk.2) (.int .i64 t285)) (fun _ hk => trivial), by repeat (first | (with_reducible first | exact HI0.out | apply IsS83.alloc | apply IsS83.drewN | apply IsS83.drew | apply IsS83.set_1 | refine IsS83.far ?_ NB0_277.out _ | refine IsS83.far ?_ NB0_287.out _) | exact HI0.out), by repeat (first | (with_reducible first | exact HB.out | apply qG | apply qD | apply qF | refine qC ?_ (IsS83.ge HI0.out) | refine qC ?_ GE277.out | refine qC ?_ GE287.out) | exact HB.out), by repeat (first | (with_reducible first | exact HK.out | apply KeepBut.set_ | apply qJ | apply qM | apply qK | refine qO ?_ GW277.out _ | refine qO ?_ GW287.out _) | exact HK.out)⟩
    · rw [if_neg c19] at H
      have c19b0 : (t288 == 1) = false := beq_eq_false_iff_ne.mpr c19
      have c19b1 : (t288 != 1) = true := bne_iff_ne.mpr c19
      by_cases c32 : t288 = 2
      · rw [if_pos c32] at H
        have c32b0 : (t288 == 2) = true := beq_iff_eq.mpr c32
        have c32b1 : (t288 != 2) = false := bne_eq_false_iff_eq.mpr c32
        clear c32
        obtain ⟨y293, hy293⟩ : ∃ y_ : List Int, y_ = (([(-1), 42] : List Int)) := ⟨_, rfl⟩
        replace H : ((spec_l1Rd_one.f k s0_0 t289 y293).bind fun bt296 => (if t281.length < 5864062014805 then (some (t278, (t281 ++ [(⟨bt296.1, (⟨#[]⟩ : ByteArray)⟩ : S70)]), t284, t285, bt296.2)) else (none))) = some (r1, r2, r3, r4, r5) := by first | (rw [hy293]; with_reducible exact H) | (have H2_ := (Option.bind_some _ _).symm.trans H; rw [hy293]; with_reducible exact H2_) | (have H2_ := (Option.bind_some _ _).symm.trans H; with_reducible exact H2_) | with_reducible exact H | (rw [hy293]; exact H) | exact H
        have Ny293 := Aside0.mk hy293
        clear hy293
        replace H := Option.bind_eq_some_iff.mp H
        obtain ⟨⟨t296, t297⟩, A330, H⟩ := H
        replace H : (if t281.length < 5864062014805 then (some (t278, (t281 ++ [(⟨t296, (⟨#[]⟩ : ByteArray)⟩ : S70)]), t284, t285, t297)) else (none)) = some (r1, r2, r3, r4, r5) := H
        have A33 := Aside0.mk A330
        clear A330
        by_cases c34 : t281.length < 5864062014805
        · rw [if_pos c34] at H
          have LMc34 := Aside0.mk c34
          clear c34
          obtain ⟨y298, hy298⟩ : ∃ y_ : List (S70), y_ = (t281 ++ [(⟨t296, (⟨#[]⟩ : ByteArray)⟩ : S70)]) := ⟨_, rfl⟩
          replace H : (some (t278, y298, t284, t285, t297)) = some (r1, r2, r3, r4, r5) := by first | (rw [hy298]; with_reducible exact H) | (have H2_ := (Option.bind_some _ _).symm.trans H; rw [hy298]; with_reducible exact H2_) | (have H2_ := (Option.bind_some _ _).symm.trans H; with_reducible exact H2_) | with_reducible exact H | (rw [hy298]; exact H) | exact H
          have Ny298 := Aside0.mk hy298
          clear hy298
          simp only [Option.some.injEq, Prod.mk.injEq] at H
          obtain ⟨rfl, rfl, rfl, rfl, rfl⟩ := H
          go_enter Try.func33, Try.ntmps33
          try go_wp2_with (first | ((with_reducible refine qZ (N := 2) rfl ?_); refine qY ?hg (N := 2) ?hd (cs := #[.slice none 0 0, .slice none 0 0, .int .i64 0, .int .i64 0]) (t := 26) ?hr ?_; (case hd => rfl); (case hg => rfl); (case hr => first | (go_simp; done) | (go_simp; rfl)); intro gb277 hg w35 hbox hb; have n0_ := Aside0.mk (IsS83.below (by repeat (first | (with_reducible first | exact HI0.out | apply IsS83.alloc | apply IsS83.drewN | apply IsS83.drew | apply IsS83.set_1) | exact HI0.out)) hb); have n1_ := Aside0.mk (KeepBut.trans (by repeat (first | (with_reducible first | exact HK.out | apply KeepBut.set_ | apply qJ | apply qM | apply qK) | exact HK.out)) (KeepBut.of_below hb g none) (.inl rfl)); have n2_ := Aside0.mk (qQ (by repeat (first | (with_reducible first | exact HB.out | apply qG | apply qD | apply qF | refine qC ?_ (IsS83.ge HI0.out)) | exact HB.out)) hb); have n3_ := Aside0.mk (hbox); have n4_ := Aside0.mk ((by rw [hg]; exact (zA (w := w) (g := g) (row := none) (by repeat (first | (with_reducible first | exact HK.out | apply KeepBut.set_ | apply qJ | apply qM | apply qK) | exact HK.out))) : w.heap.size ≤ gb277)); have n5_ := Aside0.mk ((Nat.le_trans HW0.out (by rw [hg]; exact (zA (w := w) (g := g) (row := none) (by repeat (first | (with_reducible first | exact HK.out | apply KeepBut.set_ | apply qJ | apply qM | apply qK) | exact HK.out))) : w.heap.size ≤ gb277) : w0.heap.size ≤ gb277)); have n6_ := Aside0.mk ((by rw [hg]; exact Nat.ne_of_lt (IsS83.lt (show IsS83 w0 _ g s0_0 s0_1 from by repeat (first | (with_reducible first | exact HI0.out | apply IsS83.alloc | apply IsS83.drewN | apply IsS83.drew | apply IsS83.set_1) | exact HI0.out))) : g ≠ gb277)); have n7_ := Aside0.mk ((by rw [hg]; exact Nat.ne_of_gt (IsS83.lt (show IsS83 w0 _ g s0_0 s0_1 from by repeat (first | (with_reducible first | exact HI0.out | apply IsS83.alloc | apply IsS83.drewN | apply IsS83.drew | apply IsS83.set_1) | exact HI0.out))) : gb277 ≠ g)); clear HI0; clear HK; clear HB; have HI0 := n0_; have HK := n1_; have HB := n2_; have BK277 := n3_; have GW277 := n4_; have GE277 := n5_; have NB0_277 := n6_; have NB277_0 := n7_; clear n0_ n1_ n2_ n3_ n4_ n5_ n6_ n7_; clear hb hbox hg) | ((with_reducible refine qX (f := 65) rfl ?_); refine zM (some 5) rfl rfl Try.func65 (by kernel_rfl) rfl #[.pointer (some ⟨g, 0, none⟩)] rfl (by (try simp only [List.map_toArray, List.map_cons, List.map_nil]); first | done | rfl | (simp only [List.length_drop, List.length_take]; rfl)) ?_; (with_reducible refine (spec_l15Disk.calls k g s0_0 s0_1 t278 t281 t284 t285 t286 w0 _ ?side1 ?side2 A2.out).mono ?_); (case side1 => repeat (first | (with_reducible first | exact HI0.out | apply IsS83.alloc | apply IsS83.drewN | apply IsS83.drew | apply IsS83.set_1 | refine IsS83.far ?_ NB0_277.out _) | exact HI0.out)); (case side2 => repeat (first | (with_reducible first | exact HB.out | apply qG | apply qD | apply qF | refine qC ?_ (IsS83.ge HI0.out) | refine qC ?_ GE277.out) | exact HB.out)); rintro e w36 ⟨v279, v282, rfl, ho0, ho1, hi, hb, hk⟩; refine ⟨_, rfl, ?_⟩; have n0_ := Aside0.mk (KeepBut.blk hk (g' := gb277) (o := .cells #[.slice none 0 0, .slice none 0 0, .int .i64 0, .int .i64 0] 26 (0, 0)) (bw_ BK277.out) NB277_0.out (by simp)); have n1_ := Aside0.mk (Kd.zJ ho0 (zA (w := w) (g := g) (row := none) (by repeat (first | (with_reducible first | exact HK.out | apply KeepBut.set_ | apply qJ | apply qM | apply qK | refine qO ?_ GW277.out _) | exact HK.out)))); have n2_ := Aside0.mk (Kd.zJ ho1 (zA (w := w) (g := g) (row := none) (by repeat (first | (with_reducible first | exact HK.out | apply KeepBut.set_ | apply qJ | apply qM | apply qK | refine qO ?_ GW277.out _) | exact HK.out)))); have n3_ := Aside0.mk (KeepBut.trans (by repeat (first | (with_reducible first | exact HK.out | apply KeepBut.set_ | apply qJ | apply qM | apply qK | refine qO ?_ GW277.out _) | exact HK.out)) hk (.inl rfl)); have n4_ := Aside0.mk (hb); have n5_ := Aside0.mk (hi); clear BK277; clear HK; clear HB; clear HI0; have BK277 := n0_; have HO280 := n1_; have HO283 := n2_; have HK := n3_; have HB := n4_; have HI0 := n5_; clear n0_ n1_ n2_ n3_ n4_ n5_; (try clear hb); (try clear hb2); (try clear hk); (try clear hi); (try clear ho0); (try clear ho1)) | ((with_reducible refine qZ (N := 3) rfl ?_); refine qY ?hg (N := 3) ?hd (cs := #[.slice none 0 0, .slice none 0 0, .int .i64 0, .int .i64 0]) (t := 26) ?hr ?_; (case hd => rfl); (case hg => rfl); (case hr => first | (go_simp; done) | (go_simp; rfl)); intro gb287 hg w37 hbox hb; have n0_ := Aside0.mk (Kd.zB (rw_ HO280.out) hb); have n1_ := Aside0.mk (Kd.zB (rw_ HO283.out) hb); have n2_ := Aside0.mk (IsS83.below (by repeat (first | (with_reducible first | exact HI0.out | apply IsS83.alloc | apply IsS83.drewN | apply IsS83.drew | apply IsS83.set_1 | refine IsS83.far ?_ NB0_277.out _) | exact HI0.out)) hb); have n3_ := Aside0.mk (qL (g := gb277) (o := .cells #[.slice none 0 0, .slice none 0 0, .int .i64 0, .int .i64 0] 26 (0, 0)) (bw_ BK277.out) hb); have n4_ := Aside0.mk (KeepBut.trans (by repeat (first | (with_reducible first | exact HK.out | apply KeepBut.set_ | apply qJ | apply qM | apply qK | refine qO ?_ GW277.out _) | exact HK.out)) (KeepBut.of_below hb g none) (.inl rfl)); have n5_ := Aside0.mk (qQ (by repeat (first | (with_reducible first | exact HB.out | apply qG | apply qD | apply qF | refine qC ?_ (IsS83.ge HI0.out) | refine qC ?_ GE277.out) | exact HB.out)) hb); have n6_ := Aside0.mk (hbox); have n7_ := Aside0.mk ((by rw [hg]; exact (zA (w := w) (g := g) (row := none) (by repeat (first | (with_reducible first | exact HK.out | apply KeepBut.set_ | apply qJ | apply qM | apply qK | refine qO ?_ GW277.out _) | exact HK.out))) : w.heap.size ≤ gb287)); have n8_ := Aside0.mk ((Nat.le_trans HW0.out (by rw [hg]; exact (zA (w := w) (g := g) (row := none) (by repeat (first | (with_reducible first | exact HK.out | apply KeepBut.set_ | apply qJ | apply qM | apply qK | refine qO ?_ GW277.out _) | exact HK.out))) : w.heap.size ≤ gb287) : w0.heap.size ≤ gb287)); have n9_ := Aside0.mk ((by rw [hg]; exact Nat.ne_of_lt (zE (g := gb277) (o := .cells #[.slice none 0 0, .slice none 0 0, .int .i64 0, .int .i64 0] 26 (0, 0)) (bw_ BK277.out)) : gb277 ≠ gb287)); have n10_ := Aside0.mk ((by rw [hg]; exact Nat.ne_of_gt (zE (g := gb277) (o := .cells #[.slice none 0 0, .slice none 0 0, .int .i64 0, .int .i64 0] 26 (0, 0)) (bw_ BK277.out)) : gb287 ≠ gb277)); have n11_ := Aside0.mk ((by rw [hg]; exact Nat.ne_of_lt (IsS83.lt (show IsS83 w0 _ g s0_0 t286 from by repeat (first | (with_reducible first | exact HI0.out | apply IsS83.alloc | apply IsS83.drewN | apply IsS83.drew | apply IsS83.set_1 | refine IsS83.far ?_ NB0_277.out _) | exact HI0.out))) : g ≠ gb287)); have n12_ := Aside0.mk ((by rw [hg]; exact Nat.ne_of_gt (IsS83.lt (show IsS83 w0 _ g s0_0 t286 from by repeat (first | (with_reducible first | exact HI0.out | apply IsS83.alloc | apply IsS83.drewN | apply IsS83.drew | apply IsS83.set_1 | refine IsS83.far ?_ NB0_277.out _) | exact HI0.out))) : gb287 ≠ g)); clear HO280; clear HO283; clear HI0; clear BK277; clear HK; clear HB; have HO280 := n0_; have HO283 := n1_; have HI0 := n2_; have BK277 := n3_; have HK := n4_; have HB := n5_; have BK287 := n6_; have GW287 := n7_; have GE287 := n8_; have NB277_287 := n9_; have NB287_277 := n10_; have NB0_287 := n11_; have NB287_0 := n12_; clear n0_ n1_ n2_ n3_ n4_ n5_ n6_ n7_ n8_ n9_ n10_ n11_ n12_; clear hb hbox hg; obtain ⟨Ao38, co38, eo38⟩ := Kd.zD HO280.out; subst eo38; have hnb39 := NB287_277.out; have hnc39 := NB277_287.out; have hnb40 := NB287_0.out; have hnc40 := NB0_287.out; have hcz41_0 : w37.cell? ⟨gb287, 0, none⟩ = some (.slice none 0 0) := (qA BK287.out 0).trans rfl; have hcz41_1 : w37.cell? ⟨gb287, 1, none⟩ = some (.slice none 0 0) := (qA BK287.out 1).trans rfl; have hcz41_2 : w37.cell? ⟨gb287, 2, none⟩ = some (.int .i64 0) := (qA BK287.out 2).trans rfl; have hcz41_3 : w37.cell? ⟨gb287, 3, none⟩ = some (.int .i64 0) := (qA BK287.out 3).trans rfl; have hfz41_0 := qB BK287.out 0; have hfz41_1 := qB BK287.out 1; have hfz41_2 := qB BK287.out 2; have hfz41_3 := qB BK287.out 3; obtain ⟨Ao42, co42, eo42⟩ := Kd.zD HO283.out; subst eo42) | ((with_reducible refine qX (f := 34) rfl ?_); refine zM (some 7) rfl rfl Try.func34 (by kernel_rfl) rfl #[.pointer (some ⟨g, 0, none⟩), .int .i64 24] rfl (by (try simp only [List.map_toArray, List.map_cons, List.map_nil]); first | done | rfl | (simp only [List.length_drop, List.length_take]; rfl)) ?_; (with_reducible refine (spec_l1Rd_pick.calls k g s0_0 t286 24 t288 t289 w0 _ ?side1 ?side2 A3.out).mono ?_); (case side1 => repeat (first | (with_reducible first | exact HI0.out | apply IsS83.alloc | apply IsS83.drewN | apply IsS83.drew | apply IsS83.set_1 | refine IsS83.far ?_ NB0_277.out _ | refine IsS83.far ?_ NB0_287.out _) | exact HI0.out)); (case side2 => repeat (first | (with_reducible first | exact HB.out | apply qG | apply qD | apply qF | refine qC ?_ (IsS83.ge HI0.out) | refine qC ?_ GE277.out | refine qC ?_ GE287.out) | exact HB.out)); rintro e w43 ⟨rfl, hi, hb, hk⟩; refine ⟨_, rfl, ?_⟩; have n0_ := Aside0.mk (KeepBut.blk hk (g' := gb277) (o := .cells #[.slice none 0 0, .slice none 0 0, .int .i64 0, .int .i64 0] 26 (0, 0)) (by (with_reducible repeat (first | refine qH ?_ _ | refine qI ?_ | refine qE ?_ _)); refine qR ?_ NB277_287.out _; (with_reducible repeat (first | refine qH ?_ _ | refine qI ?_ | refine qE ?_ _)); refine qR ?_ NB277_287.out _; (with_reducible repeat (first | refine qH ?_ _ | refine qI ?_ | refine qE ?_ _)); refine qR ?_ NB277_287.out _; (with_reducible repeat (first | refine qH ?_ _ | refine qI ?_ | refine qE ?_ _)); refine qR ?_ NB277_287.out _; (with_reducible repeat (first | refine qH ?_ _ | refine qI ?_ | refine qE ?_ _)); exact BK277.out) NB277_0.out (by simp)); have n1_ := Aside0.mk (Kd.qS (Kd.zN (IsS83.apart (show IsS83 w0 _ g s0_0 t286 from by repeat (first | (with_reducible first | exact HI0.out | apply IsS83.alloc | apply IsS83.drewN | apply IsS83.drew | apply IsS83.set_1 | refine IsS83.far ?_ NB0_277.out _ | refine IsS83.far ?_ NB0_287.out _) | exact HI0.out)) (by (with_reducible repeat (first | apply Kd.qU | apply Kd.qT | apply Kd.qV)); exact (Kd.qS (Kd.R_far (p := ⟨gb287, 3, none⟩) (Kd.R_far (p := ⟨gb287, 2, none⟩) (Kd.R_far (p := ⟨gb287, 1, none⟩) (Kd.R_far (p := ⟨gb287, 0, none⟩) (Kd.qW HO280.out BK287.out (by decide)) (fun _ hk => hk.2) (.slice Ao38 t278.length co38)) (fun _ hk => hk.2) (.slice Ao42 t281.length co42)) (fun _ hk => hk.2) (.int .i64 t284)) (fun _ hk => hk.2) (.int .i64 t285)) (fun _ h_ => h_.1))) (by decide)) hk (fun _ h => h.2)) (fun _ h => h.1)); have n2_ := Aside0.mk (Kd.qS (Kd.zN (IsS83.apart (show IsS83 w0 _ g s0_0 t286 from by repeat (first | (with_reducible first | exact HI0.out | apply IsS83.alloc | apply IsS83.drewN | apply IsS83.drew | apply IsS83.set_1 | refine IsS83.far ?_ NB0_277.out _ | refine IsS83.far ?_ NB0_287.out _) | exact HI0.out)) (by (with_reducible repeat (first | apply Kd.qU | apply Kd.qT | apply Kd.qV)); exact (Kd.qS (Kd.R_far (p := ⟨gb287, 3, none⟩) (Kd.R_far (p := ⟨gb287, 2, none⟩) (Kd.R_far (p := ⟨gb287, 1, none⟩) (Kd.R_far (p := ⟨gb287, 0, none⟩) (Kd.qW HO283.out BK287.out (by decide)) (fun _ hk => hk.2) (.slice Ao38 t278.length co38)) (fun _ hk => hk.2) (.slice Ao42 t281.length co42)) (fun _ hk => hk.2) (.int .i64 t284)) (fun _ hk => hk.2) (.int .i64 t285)) (fun _ h_ => h_.1))) (by decide)) hk (fun _ h => h.2)) (fun _ h => h.1)); have n3_ := Aside0.mk (KeepBut.blk hk (g' := gb287) (o := .cells #[.slice Ao38 t278.length co38, .slice Ao42 t281.length co42, .int .i64 t284, .int .i64 t285] 26 (0, 0)) (by (with_reducible repeat (first | refine qH ?_ _ | refine qI ?_ | refine qE ?_ _)); refine qN (cs := #[.slice Ao38 t278.length co38, .slice Ao42 t281.length co42, .int .i64 t284, .int .i64 0]) ?_ 3 _ rfl; (with_reducible repeat (first | refine qH ?_ _ | refine qI ?_ | refine qE ?_ _)); refine qN (cs := #[.slice Ao38 t278.length co38, .slice Ao42 t281.length co42, .int .i64 0, .int .i64 0]) ?_ 2 _ rfl; (with_reducible repeat (first | refine qH ?_ _ | refine qI ?_ | refine qE ?_ _)); refine qN (cs := #[.slice Ao38 t278.length co38, .slice none 0 0, .int .i64 0, .int .i64 0]) ?_ 1 _ rfl; (with_reducible repeat (first | refine qH ?_ _ | refine qI ?_ | refine qE ?_ _)); refine qN (cs := #[.slice none 0 0, .slice none 0 0, .int .i64 0, .int .i64 0]) ?_ 0 _ rfl; (with_reducible repeat (first | refine qH ?_ _ | refine qI ?_ | refine qE ?_ _)); exact BK287.out) NB287_0.out (by simp)); have n4_ := Aside0.mk (KeepBut.trans (by repeat (first | (with_reducible first | exact HK.out | apply KeepBut.set_ | apply qJ | apply qM | apply qK | refine qO ?_ GW277.out _ | refine qO ?_ GW287.out _) | exact HK.out)) hk (.inl rfl)); have n5_ := Aside0.mk (hb); have n6_ := Aside0.mk (hi); clear BK277; clear HO280; clear HO283; clear BK287; clear HK; clear HB; clear HI0; have BK277 := n0_; have HO280 := n1_; have HO283 := n2_; have BK287 := n3_; have HK := n4_; have HB := n5_; have HI0 := n6_; clear n0_ n1_ n2_ n3_ n4_ n5_ n6_; (try clear hb); (try clear hb2); (try clear hk); (try clear hi)))
          have n0_ := Aside0.mk (Kd.qV HO280.out)
          have n1_ := Aside0.mk (Kd.qV HO283.out)
          have n2_ := Aside0.mk (qI BK277.out)
          have n3_ := Aside0.mk (qI BK287.out)
          have n4_ := Aside0.mk (IsS83.drew HI0.out)
          have n5_ := Aside0.mk (qM HK.out)
          have n6_ := Aside0.mk (qF HB.out)
          clear HO280
          clear HO283
          clear BK277
          clear BK287
          clear HI0
          clear HK
          clear HB
          have HO280 := n0_
          have HO283 := n1_
          have BK277 := n2_
          have BK287 := n3_
          have HI0 := n4_
          have HK := n5_
          have HB := n6_
          clear n0_ n1_ n2_ n3_ n4_ n5_ n6_
          refine start_ (n := 10) (S := fun w' => w'.cell? ⟨gb287, 0, none⟩ = some (.slice Ao38 t278.length co38) ∧ w'.cell? ⟨gb287, 1, none⟩ = some (.slice Ao42 t281.length co42) ∧ w'.cell? ⟨gb287, 2, none⟩ = some (.int .i64 t284) ∧ w'.cell? ⟨gb287, 3, none⟩ = some (.int .i64 t285)) (ds := [9]) #[false, false, false, false, false, false, false, false, false, false] (by kernel_rfl) rfl rfl ⟨(qA BK287.out 0).trans rfl, (qA BK287.out 1).trans rfl, (qA BK287.out 2).trans rfl, (qA BK287.out 3).trans rfl⟩ (fun hHeld => ?_); refine with_tabW spec_l15AnyDisk.tab8 spec_l15AnyDisk.bits8 (fun HT_ HW_ => ?_)
          generalize w43.drew = w44 at HO280 HO283 BK277 BK287 HI0 HK HB hHeld ⊢
          refine pure_ (i := 0) (N := some 19) (v := ?_) (a' := ?_) #[true, false, false, false, false, false, false, false, false, false] rfl rfl (zI HT_.out (by kernel_rfl)) (fun _ _ _ h => h) (Or.inl ⟨by rfl, ?_⟩) ?_ ?_
          rotate_left
          · intro w'
            go_simp
            with_reducible rfl
          rotate_left
          · simp only [Act.put, List.setIfInBounds_toArray, List.set_cons_zero, List.set_cons_succ, i64_w, i32_w]
            rfl
          refine pure_ (i := 2) (N := some 21) (v := ?_) (a' := ?_) #[true, false, true, false, false, false, false, false, false, false] rfl rfl (zI HT_.out (by kernel_rfl)) (fun _ _ _ h => h) (Or.inl ⟨by rfl, ?_⟩) ?_ ?_
          rotate_left
          · intro w'
            go_simp
            with_reducible rfl
          rotate_left
          · simp only [Act.put, List.setIfInBounds_toArray, List.set_cons_zero, List.set_cons_succ, i64_w, i32_w]
            rfl
          refine take_ (i := 1) (N := some 20) (v := ?_) (a' := ?_) #[true, true, true, false, false, false, false, false, false, false] rfl rfl (zX HT_.out HW_.out (by kernel_rfl)) (fun _ _ _ h => h) (Or.inl ⟨by rfl, ?_⟩) hHeld ?_ ?_
          rotate_left
          · rintro w' ⟨s0, s1, s2, s3⟩
            go_simp
            with_reducible rfl
          rotate_left
          · simp only [Act.put, List.setIfInBounds_toArray, List.set_cons_zero, List.set_cons_succ, i64_w, i32_w]
            rfl
          refine one_ (i := 3) (N := some 22) #[true, true, true, true, false, false, false, false, false, false] rfl rfl (zW HT_.out (by kernel_rfl)) (by decide) (fun K hK => ?_)
          refine Kd.R_lit_step (Kd.int .i64) _ 3 ?hg (N := 22) ?hd (xs := ([(-1), 42] : List Int)) (inner := [.int .i64 (-1), .int .i64 42]) (ok := fun _ => True) (okp := fun _ => True) ?hr ?hp (fun _ hk => hk) trivial (Below.refl _ _) (Nat.le_refl _) (by simp) ?_; (case hd => rfl); (case hg => rfl); (case hr => first | (go_simp; done) | (go_simp; rfl)); (case hp => exact (Reps.one (show Kd.M (Kd.int .i64) _ _ _ (-1) [.int .i64 (-1)] from rfl) (Reps.one (show Kd.M (Kd.int .i64) _ _ _ 42 [.int .i64 42] from rfl) (Reps.none _ _))))
          intro v294 w45 ho46 hb hg_ hnew_
          clear hg_ hnew_
          (first | rw [← Ny293.out] at ho46 | (simp only [Int.reduceToNat] at ho46; rw [← Ny293.out] at ho46))
          have n0_ := Aside0.mk (Kd.zB (rw_ HO280.out) hb)
          have n1_ := Aside0.mk (Kd.zB (rw_ HO283.out) hb)
          have n2_ := Aside0.mk (Kd.zJ ho46 (zA (w := w) (g := g) (row := none) (by repeat (first | (with_reducible first | exact HK.out | apply KeepBut.set_ | apply qJ | apply qM | apply qK | refine qO ?_ GW277.out _ | refine qO ?_ GW287.out _) | exact HK.out))))
          have n3_ := Aside0.mk (IsS83.below (by repeat (first | (with_reducible first | exact HI0.out | apply IsS83.alloc | apply IsS83.drewN | apply IsS83.drew | apply IsS83.set_1 | refine IsS83.far ?_ NB0_277.out _ | refine IsS83.far ?_ NB0_287.out _) | exact HI0.out)) hb)
          have n4_ := Aside0.mk (qL (g := gb277) (o := .cells #[.slice none 0 0, .slice none 0 0, .int .i64 0, .int .i64 0] 26 (0, 0)) (bw_ BK277.out) hb)
          have n5_ := Aside0.mk (qL (g := gb287) (o := .cells #[.slice Ao38 t278.length co38, .slice Ao42 t281.length co42, .int .i64 t284, .int .i64 t285] 26 (0, 0)) (bw_ BK287.out) hb)
          have n6_ := Aside0.mk (KeepBut.trans (by repeat (first | (with_reducible first | exact HK.out | apply KeepBut.set_ | apply qJ | apply qM | apply qK | refine qO ?_ GW277.out _ | refine qO ?_ GW287.out _) | exact HK.out)) (KeepBut.of_below hb g none) (.inl rfl))
          have n7_ := Aside0.mk (qQ (by repeat (first | (with_reducible first | exact HB.out | apply qG | apply qD | apply qF | refine qC ?_ (IsS83.ge HI0.out) | refine qC ?_ GE277.out | refine qC ?_ GE287.out) | exact HB.out)) hb)
          clear HO280
          clear HO283
          clear HI0
          clear BK277
          clear BK287
          clear HK
          clear HB
          have HO280 := n0_
          have HO283 := n1_
          have HO295 := n2_
          have HI0 := n3_
          have BK277 := n4_
          have BK287 := n5_
          have HK := n6_
          have HB := n7_
          clear n0_ n1_ n2_ n3_ n4_ n5_ n6_ n7_
          clear hb ho46
          obtain ⟨Ao47, co47, eo47⟩ := Kd.zD HO295.out
          (first | subst eo47 | (injection eo47 with f1_ f2_ f3_; have f4_ := f1_.symm; have f5_ := f3_.symm; clear f1_ f2_ f3_; subst f4_; subst f5_))
          refine hK.out _ _ ⟨(qA BK287.out 0).trans rfl, (qA BK287.out 1).trans rfl, (qA BK287.out 2).trans rfl, (qA BK287.out 3).trans rfl⟩ (fun hHeld => ?_)
          clear hK K
          refine norm_ (a' := ?_) ?_ ?_
          rotate_left
          · show Act.put _ (some 22) _ = _
            simp only [Act.put, List.setIfInBounds_toArray, List.set_cons_zero, List.set_cons_succ, i64_w, i32_w]
            rfl
          refine one_ (i := 4) (N := some 23) #[true, true, true, true, true, false, false, false, false, false] rfl rfl (zW HT_.out (by kernel_rfl)) (by decide) (fun K hK => ?_)
          refine goes_ Try.func40 (by kernel_rfl) rfl #[.pointer (some ⟨g, 0, none⟩), .slice Ao47 y293.length co47] (by rfl) rfl rfl (by (try simp only [List.map_toArray, List.map_cons, List.map_nil]); first | done | rfl | (simp only [List.length_drop, List.length_take]; rfl)) ?_
          with_reducible refine (spec_l1Rd_one.calls k g s0_0 t289 _ _ y293 t296 t297 w0 _ ?side1 ?side2 ?side3 ?side4 ?side5 A33.out).mono ?_
          (case side1 => repeat (first | (with_reducible first | exact HI0.out | apply IsS83.alloc | apply IsS83.drewN | apply IsS83.drew | apply IsS83.set_1 | refine IsS83.far ?_ NB0_277.out _ | refine IsS83.far ?_ NB0_287.out _) | exact HI0.out))
          (case side2 => repeat (first | (with_reducible first | exact HB.out | apply qG | apply qD | apply qF | refine qC ?_ (IsS83.ge HI0.out) | refine qC ?_ GE277.out | refine qC ?_ GE287.out) | exact HB.out))
          (case side3 => repeat (first | exact (Kd.zC HO295.out).2.2 | (with_reducible refine Kd.zF ?_ _) | (with_reducible refine Kd.zG ?_ _) | (with_reducible refine Kd.zL ?_)))
          (case side4 => exact (Kd.zC HO295.out).2.1)
          (case side5 => exact far_slice (IsS83.own_ne HI0.out HO295.out (by decide)))
          rintro e w48 ⟨rfl, hi, hb, hk⟩
          refine ⟨_, rfl, ?_⟩
          have n0_ := Aside0.mk (KeepBut.blk hk (g' := gb277) (o := .cells #[.slice none 0 0, .slice none 0 0, .int .i64 0, .int .i64 0] 26 (0, 0)) (bw_ BK277.out) NB277_0.out (by simp))
          have n1_ := Aside0.mk (Kd.qS (Kd.zN (IsS83.apart (show IsS83 w0 _ g s0_0 t289 from by repeat (first | (with_reducible first | exact HI0.out | apply IsS83.alloc | apply IsS83.drewN | apply IsS83.drew | apply IsS83.set_1 | refine IsS83.far ?_ NB0_277.out _ | refine IsS83.far ?_ NB0_287.out _) | exact HI0.out)) (rw_ HO280.out) (by decide)) hk (fun _ h => h.2)) (fun _ h => h.1))
          have n2_ := Aside0.mk (Kd.qS (Kd.zN (IsS83.apart (show IsS83 w0 _ g s0_0 t289 from by repeat (first | (with_reducible first | exact HI0.out | apply IsS83.alloc | apply IsS83.drewN | apply IsS83.drew | apply IsS83.set_1 | refine IsS83.far ?_ NB0_277.out _ | refine IsS83.far ?_ NB0_287.out _) | exact HI0.out)) (rw_ HO283.out) (by decide)) hk (fun _ h => h.2)) (fun _ h => h.1))
          have n3_ := Aside0.mk (KeepBut.blk hk (g' := gb287) (o := .cells #[.slice Ao38 t278.length co38, .slice Ao42 t281.length co42, .int .i64 t284, .int .i64 t285] 26 (0, 0)) (bw_ BK287.out) NB287_0.out (by simp))
          have n4_ := Aside0.mk (Kd.qS (Kd.zN (IsS83.apart (show IsS83 w0 _ g s0_0 t289 from by repeat (first | (with_reducible first | exact HI0.out | apply IsS83.alloc | apply IsS83.drewN | apply IsS83.drew | apply IsS83.set_1 | refine IsS83.far ?_ NB0_277.out _ | refine IsS83.far ?_ NB0_287.out _) | exact HI0.out)) (rw_ HO295.out) (by decide)) hk (fun _ h => h.2)) (fun _ h => h.1))
          have n5_ := Aside0.mk (KeepBut.trans (by repeat (first | (with_reducible first | exact HK.out | apply KeepBut.set_ | apply qJ | apply qM | apply qK | refine qO ?_ GW277.out _ | refine qO ?_ GW287.out _) | exact HK.out)) hk (.inl rfl))
          have n6_ := Aside0.mk (hb)
          have n7_ := Aside0.mk (hi)
          clear BK277
          clear HO280
          clear HO283
          clear BK287
          clear HO295
          clear HK
          clear HB
          clear HI0
          have BK277 := n0_
          have HO280 := n1_
          have HO283 := n2_
          have BK287 := n3_
          have HO295 := n4_
          have HK := n5_
          have HB := n6_
          have HI0 := n7_
          clear n0_ n1_ n2_ n3_ n4_ n5_ n6_ n7_
          (try clear hb)
          (try clear hb2)
          (try clear hk)
          (try clear hi)
          refine hK.out _ _ ⟨(qA BK287.out 0).trans rfl, (qA BK287.out 1).trans rfl, (qA BK287.out 2).trans rfl, (qA BK287.out 3).trans rfl⟩ (fun hHeld => ?_)
          clear hK K
          refine norm_ (a' := ?_) ?_ ?_
          rotate_left
          · show Act.put _ (some 23) _ = _
            simp only [Act.put, List.setIfInBounds_toArray, List.set_cons_zero, List.set_cons_succ, i64_w, i32_w]
            rfl
          refine pure_ (i := 5) (N := some 24) (v := ?_) (a' := ?_) #[true, true, true, true, true, true, false, false, false, false] rfl rfl (zI HT_.out (by kernel_rfl)) (fun _ _ _ h => h) (Or.inl ⟨by rfl, ?_⟩) ?_ ?_
          rotate_left
          · intro w'
            go_simp
            with_reducible rfl
          rotate_left
          · simp only [Act.put, List.setIfInBounds_toArray, List.set_cons_zero, List.set_cons_succ, i64_w, i32_w]
            rfl
          refine one_ (i := 6) (N := some 25) #[true, true, true, true, true, true, true, false, false, false] rfl rfl (zW HT_.out (by kernel_rfl)) (by decide) (fun K hK => ?_)
          refine value_ (w1 := ?_) (v := ?_) (by rfl) rfl ?_ ?_
          rotate_left 2
          · go_simp
            constructor
            · rfl
            · rfl
          refine hK.out _ _ ⟨(qA (qE BK287.out _) 0).trans rfl, (qA (qE BK287.out _) 1).trans rfl, (qA (qE BK287.out _) 2).trans rfl, (qA (qE BK287.out _) 3).trans rfl⟩ (fun hHeld => ?_)
          clear hK K
          refine norm_ (a' := ?_) ?_ ?_
          rotate_left
          · show Act.put _ (some 25) _ = _
            simp only [Act.put, List.setIfInBounds_toArray, List.set_cons_zero, List.set_cons_succ, i64_w, i32_w]
            rfl
          refine one_ (i := 7) (N := some 26) #[true, true, true, true, true, true, true, true, false, false] rfl rfl (zW HT_.out (by kernel_rfl)) (by decide) (fun K hK => ?_)
          refine Kd.R_append_step k70 w.heap.size (by rfl) (.tmp 20) (.tmp 25) 24 70 (.agg #[(.int .i64 0), (.string ⟨#[]⟩)]) 24 rfl Try.underlying24 info70 rfl (by decide) (by omega) (.slice Ao42 t281.length co42) t281 (⟨t296, (⟨#[]⟩ : ByteArray)⟩ : S70) [.int .i64 t296, .string (⟨#[]⟩ : ByteArray)] (fun _ => True) (fun _ => False) rfl rfl ?aP (fun _ hk => hk.elim) ?aF ?aO (Below.refl _ _) ?aS ?aL ?_
          (case aP => exact k70_mkM _ _ _ (⟨t296, (⟨#[]⟩ : ByteArray)⟩ : S70))
          (case aF => exact (fun _ _ => trivial))
          (case aO => exact (rw_ HO283.out))
          (case aS => exact (zA (w := w) (g := g) (row := none) (by repeat (first | (with_reducible first | exact HK.out | apply KeepBut.set_ | apply qJ | apply qM | apply qK | refine qO ?_ GW277.out _ | refine qO ?_ GW287.out _) | exact HK.out))))
          (case aL => have := LMc34.out; omega)
          intro v299 w49 ho hb hg hat
          rw [← Ny298.out] at ho
          have n0_ := Aside0.mk (IsS83.grown (by repeat (first | (with_reducible first | exact HI0.out | apply IsS83.alloc | apply IsS83.drewN | apply IsS83.drew | apply IsS83.set_1 | refine IsS83.far ?_ NB0_277.out _ | refine IsS83.far ?_ NB0_287.out _) | exact HI0.out)) hg (IsS83.own_ne HI0.out HO283.out (by decide)))
          have n1_ := Aside0.mk (zV (g := gb277) (o := .cells #[.slice none 0 0, .slice none 0 0, .int .i64 0, .int .i64 0] 26 (0, 0)) (bw_ BK277.out) hg (Kd.R_ne HO283.out BK277.out (by decide)))
          have n2_ := Aside0.mk (Kd.R_over' (rw_ HO280.out) (Kd.R_typed (rw_ HO283.out)) (by decide) hg)
          have n3_ := Aside0.mk (zV (g := gb287) (o := .cells #[.slice Ao38 t278.length co38, .slice Ao42 t281.length co42, .int .i64 t284, .int .i64 t285] 26 (0, 0)) (bw_ BK287.out) hg (Kd.R_ne HO283.out BK287.out (by decide)))
          have n4_ := Aside0.mk (Kd.R_over' (rw_ HO295.out) (Kd.R_typed (rw_ HO283.out)) (by decide) hg)
          have n5_ := Aside0.mk (below_weaken (by repeat (first | (with_reducible first | exact HB.out | apply qG | apply qD | apply qF | refine qC ?_ (IsS83.ge HI0.out) | refine qC ?_ GE277.out | refine qC ?_ GE287.out) | exact HB.out)) HL.out hb)
          have n6_ := Aside0.mk (KeepBut.trans (by repeat (first | (with_reducible first | exact HK.out | apply KeepBut.set_ | apply qJ | apply qM | apply qK | refine qO ?_ GW277.out _ | refine qO ?_ GW287.out _) | exact HK.out)) (KeepBut.of_grown hg g) (Kd.R_base2 HO283.out))
          have n7_ := Aside0.mk (ho)
          clear HI0
          clear BK277
          clear HO280
          clear BK287
          clear HO295
          clear HB
          clear HK
          clear HO283
          have HI0 := n0_
          have BK277 := n1_
          have HO280 := n2_
          have BK287 := n3_
          have HO295 := n4_
          have HB := n5_
          have HK := n6_
          have HO300 := n7_
          clear n0_ n1_ n2_ n3_ n4_ n5_ n6_ n7_
          clear ho hb hg hat
          obtain ⟨Ao50, co50, eo50⟩ := Kd.zD HO300.out
          (first | subst eo50 | (injection eo50 with f1_ f2_ f3_; have f4_ := f1_.symm; have f5_ := f3_.symm; clear f1_ f2_ f3_; subst f4_; subst f5_))
          refine hK.out _ _ ⟨(qA BK287.out 0).trans rfl, (qA BK287.out 1).trans rfl, (qA BK287.out 2).trans rfl, (qA BK287.out 3).trans rfl⟩ (fun hHeld => ?_)
          clear hK K
          refine norm_ (a' := ?_) ?_ ?_
          rotate_left
          · show Act.put _ (some 26) _ = _
            simp only [Act.put, List.setIfInBounds_toArray, List.set_cons_zero, List.set_cons_succ, i64_w, i32_w]
            rfl
          refine pure_ (i := 8) (N := some 27) (v := ?_) (a' := ?_) #[true, true, true, true, true, true, true, true, true, false] rfl rfl (zI HT_.out (by kernel_rfl)) (fun _ _ _ h => h) (Or.inl ⟨by rfl, ?_⟩) ?_ ?_
          rotate_left
          · intro w'
            go_simp
            with_reducible rfl
          rotate_left
          · simp only [Act.put, List.setIfInBounds_toArray, List.set_cons_zero, List.set_cons_succ, i64_w, i32_w]
            rfl
          refine last_ (i := 9) (N := none) #[true, true, true, true, true, true, true, true, true, true] rfl rfl (zW HT_.out (by kernel_rfl)) (by decide) (fun K hK => ?_)
          have hs51 : w49.cell? ⟨gb287, 1, none⟩ = some (.slice Ao42 t281.length co42) := (qA BK287.out 1).trans rfl
          have hfs51 := qB BK287.out 1
          have hns51_0 := NB277_287.out
          have hms51_0 := NB287_277.out
          refine skip_ (w1 := ?_) (by rfl) rfl ?_ ?_
          rotate_left
          · go_simp
            rfl
          refine hK.out _ _ ?_
          clear hK K
          refine done_ (done_of HT_.out (by kernel_rfl)) ?_
          have hcz52_0 : w49.cell? ⟨gb287, 0, none⟩ = some (.slice Ao38 t278.length co38) := (qA BK287.out 0).trans rfl
          have hcz52_1 : w49.cell? ⟨gb287, 1, none⟩ = some (.slice Ao42 t281.length co42) := (qA BK287.out 1).trans rfl
          have hcz52_2 : w49.cell? ⟨gb287, 2, none⟩ = some (.int .i64 t284) := (qA BK287.out 2).trans rfl
          have hcz52_3 : w49.cell? ⟨gb287, 3, none⟩ = some (.int .i64 t285) := (qA BK287.out 3).trans rfl
          have hfz52_0 := qB BK287.out 0
          have hfz52_1 := qB BK287.out 1
          have hfz52_2 := qB BK287.out 2
          have hfz52_3 := qB BK287.out 3
          have hnb53 := NB277_0.out
          have hnc53 := NB0_277.out
          have hcz54_0 : w49.cell? ⟨gb277, 0, none⟩ = some (.slice none 0 0) := (qA BK277.out 0).trans rfl
          have hcz54_1 : w49.cell? ⟨gb277, 1, none⟩ = some (.slice none 0 0) := (qA BK277.out 1).trans rfl
          have hcz54_2 : w49.cell? ⟨gb277, 2, none⟩ = some (.int .i64 0) := (qA BK277.out 2).trans rfl
          have hcz54_3 : w49.cell? ⟨gb277, 3, none⟩ = some (.int .i64 0) := (qA BK277.out 3).trans rfl
          have hfz54_0 := qB BK277.out 0
          have hfz54_1 := qB BK277.out 1
          have hfz54_2 := qB BK277.out 2
          have hfz54_3 := qB BK277.out 3
          try go_wp2
          refine bodyPost_ret (results_cell_row rfl _ _ gb277 26 #[.slice Ao38 t278.length co38, .slice Ao50 y298.length co50, .int .i64 t284, .int .i64 t285] (0, 0) _ rfl (by (with_reducible repeat (first | refine qH ?_ _ | refine qI ?_ | refine qE ?_ _)); refine qN (cs := #[.slice Ao38 t278.length co38, .slice Ao50 y298.length co50, .int .i64 t284, .int .i64 0]) ?_ 3 _ rfl; (with_reducible repeat (first | refine qH ?_ _ | refine qI ?_ | refine qE ?_ _)); refine qN (cs := #[.slice Ao38 t278.length co38, .slice Ao50 y298.length co50, .int .i64 0, .int .i64 0]) ?_ 2 _ rfl; (with_reducible repeat (first | refine qH ?_ _ | refine qI ?_ | refine qE ?_ _)); refine qN (cs := #[.slice Ao38 t278.length co38, .slice none 0 0, .int .i64 0, .int .i64 0]) ?_ 1 _ rfl; (with_reducible repeat (first | refine qH ?_ _ | refine qI ?_ | refine qE ?_ _)); refine qN (cs := #[.slice none 0 0, .slice none 0 0, .int .i64 0, .int .i64 0]) ?_ 0 _ rfl; (with_reducible repeat (first | refine qH ?_ _ | refine qI ?_ | refine qE ?_ _)); refine qR ?_ NB277_287.out _; (with_reducible repeat (first | refine qH ?_ _ | refine qI ?_ | refine qE ?_ _)); exact BK277.out) Try.underlying26 rfl (by kernel_rfl)) rfl ?_
          exact ⟨_, _, by first | rfl | (simp [errW_none, errW_some] <;> rfl) | (simp [*, errW_none, errW_some] <;> rfl), Kd.Q_of_R (by (with_reducible repeat (first | apply Kd.qU | apply Kd.qT | apply Kd.qV)); exact Kd.qS (Kd.R_far (p := ⟨gb277, 3, none⟩) (Kd.R_far (p := ⟨gb277, 2, none⟩) (Kd.R_far (p := ⟨gb277, 1, none⟩) (Kd.R_far (p := ⟨gb277, 0, none⟩) (Kd.R_far (p := ⟨gb287, 1, none⟩) (Kd.qW (Kd.qW HO280.out BK287.out (by decide)) BK277.out (by decide)) (fun _ hk => hk.1.2) (.slice Ao50 y298.length co50)) (fun _ hk => hk.2) (.slice Ao38 t278.length co38)) (fun _ hk => hk.2) (.slice Ao50 y298.length co50)) (fun _ hk => hk.2) (.int .i64 t284)) (fun _ hk => hk.2) (.int .i64 t285)) (fun _ hk => trivial)), by (with_reducible repeat (first | apply Kd.qU | apply Kd.qT | apply Kd.qV)); exact Kd.qS (Kd.R_far (p := ⟨gb277, 3, none⟩) (Kd.R_far (p := ⟨gb277, 2, none⟩) (Kd.R_far (p := ⟨gb277, 1, none⟩) (Kd.R_far (p := ⟨gb277, 0, none⟩) (Kd.R_far (p := ⟨gb287, 1, none⟩) (Kd.qW (Kd.qW HO300.out BK287.out (by decide)) BK277.out (by decide)) (fun _ hk => hk.1.2) (.slice Ao50 y298.length co50)) (fun _ hk => hk.2) (.slice Ao38 t278.length co38)) (fun _ hk => hk.2) (.slice Ao50 y298.length co50)) (fun _ hk => hk.2) (.int .i64 t284)) (fun _ hk => hk.2) (.int .i64 t285)) (fun _ hk => trivial), by repeat (first | (with_reducible first | exact HI0.out | apply IsS83.alloc | apply IsS83.drewN | apply IsS83.drew | apply IsS83.set_1 | refine IsS83.far ?_ NB0_277.out _ | refine IsS83.far ?_ NB0_287.out _) | exact HI0.out), by repeat (first | (with_reducible first | exact HB.out | apply qG | apply qD | apply qF | refine qC ?_ (IsS83.ge HI0.out) | refine qC ?_ GE277.out | refine qC ?_ GE287.out) | exact HB.out), by repeat (first | (with_reducible first | exact HK.out | apply KeepBut.set_ | apply qJ | apply qM | apply qK | refine qO ?_ GW277.out _ | refine qO ?_ GW287.out _) | exact HK.out)⟩
        · rw [if_neg c34] at H
          exact absurd H (by simp)
      · rw [if_neg c32] at H
        have c32b0 : (t288 == 2) = false := beq_eq_false_iff_ne.mpr c32
        have c32b1 : (t288 != 2) = true := bne_iff_ne.mpr c32
        by_cases c55 : t288 = 3
        · rw [if_pos c55] at H
          have c55b0 : (t288 == 3) = true := beq_iff_eq.mpr c55
          have c55b1 : (t288 != 3) = false := bne_eq_false_iff_eq.mpr c55
          clear c55
          replace H := Option.bind_eq_some_iff.mp H
          obtain ⟨t301, A560, H⟩ := H
          replace H : (if 0 < (t278.length : Int) then (some ((t278.set (0 : Int).toNat t301), t281, t284, t285, t289)) else (none)) = some (r1, r2, r3, r4, r5) := H
          have A56 := Aside0.mk A560
          clear A560
          by_cases c57 : 0 < (t278.length : Int)
          · rw [if_pos c57] at H
            have c57b0 : decide (0 < (t278.length : Int)) = true := decide_eq_true c57
            have c57b1 : decide (0 < t278.length) = true := decide_eq_true (by omega)
            clear c57
            obtain ⟨y302, hy302⟩ : ∃ y_ : List ByteArray, y_ = (t278.set (0 : Int).toNat t301) := ⟨_, rfl⟩
            replace H : (some (y302, t281, t284, t285, t289)) = some (r1, r2, r3, r4, r5) := by first | (rw [hy302]; with_reducible exact H) | (have H2_ := (Option.bind_some _ _).symm.trans H; rw [hy302]; with_reducible exact H2_) | (have H2_ := (Option.bind_some _ _).symm.trans H; with_reducible exact H2_) | with_reducible exact H | (rw [hy302]; exact H) | exact H
            have Ny302 := Aside0.mk hy302
            clear hy302
            simp only [Option.some.injEq, Prod.mk.injEq] at H
            obtain ⟨rfl, rfl, rfl, rfl, rfl⟩ := H
            go_enter Try.func33, Try.ntmps33
            try go_wp2_with (first | ((with_reducible refine qZ (N := 2) rfl ?_); refine qY ?hg (N := 2) ?hd (cs := #[.slice none 0 0, .slice none 0 0, .int .i64 0, .int .i64 0]) (t := 26) ?hr ?_; (case hd => rfl); (case hg => rfl); (case hr => first | (go_simp; done) | (go_simp; rfl)); intro gb277 hg w59 hbox hb; have n0_ := Aside0.mk (IsS83.below (by repeat (first | (with_reducible first | exact HI0.out | apply IsS83.alloc | apply IsS83.drewN | apply IsS83.drew | apply IsS83.set_1) | exact HI0.out)) hb); have n1_ := Aside0.mk (KeepBut.trans (by repeat (first | (with_reducible first | exact HK.out | apply KeepBut.set_ | apply qJ | apply qM | apply qK) | exact HK.out)) (KeepBut.of_below hb g none) (.inl rfl)); have n2_ := Aside0.mk (qQ (by repeat (first | (with_reducible first | exact HB.out | apply qG | apply qD | apply qF | refine qC ?_ (IsS83.ge HI0.out)) | exact HB.out)) hb); have n3_ := Aside0.mk (hbox); have n4_ := Aside0.mk ((by rw [hg]; exact (zA (w := w) (g := g) (row := none) (by repeat (first | (with_reducible first | exact HK.out | apply KeepBut.set_ | apply qJ | apply qM | apply qK) | exact HK.out))) : w.heap.size ≤ gb277)); have n5_ := Aside0.mk ((Nat.le_trans HW0.out (by rw [hg]; exact (zA (w := w) (g := g) (row := none) (by repeat (first | (with_reducible first | exact HK.out | apply KeepBut.set_ | apply qJ | apply qM | apply qK) | exact HK.out))) : w.heap.size ≤ gb277) : w0.heap.size ≤ gb277)); have n6_ := Aside0.mk ((by rw [hg]; exact Nat.ne_of_lt (IsS83.lt (show IsS83 w0 _ g s0_0 s0_1 from by repeat (first | (with_reducible first | exact HI0.out | apply IsS83.alloc | apply IsS83.drewN | apply IsS83.drew | apply IsS83.set_1) | exact HI0.out))) : g ≠ gb277)); have n7_ := Aside0.mk ((by rw [hg]; exact Nat.ne_of_gt (IsS83.lt (show IsS83 w0 _ g s0_0 s0_1 from by repeat (first | (with_reducible first | exact HI0.out | apply IsS83.alloc | apply IsS83.drewN | apply IsS83.drew | apply IsS83.set_1) | exact HI0.out))) : gb277 ≠ g)); clear HI0; clear HK; clear HB; have HI0 := n0_; have HK := n1_; have HB := n2_; have BK277 := n3_; have GW277 := n4_; have GE277 := n5_; have NB0_277 := n6_; have NB277_0 := n7_; clear n0_ n1_ n2_ n3_ n4_ n5_ n6_ n7_; clear hb hbox hg) | ((with_reducible refine qX (f := 65) rfl ?_); refine zM (some 5) rfl rfl Try.func65 (by kernel_rfl) rfl #[.pointer (some ⟨g, 0, none⟩)] rfl (by (try simp only [List.map_toArray, List.map_cons, List.map_nil]); first | done | rfl | (simp only [List.length_drop, List.length_take]; rfl)) ?_; (with_reducible refine (spec_l15Disk.calls k g s0_0 s0_1 t278 t281 t284 t285 t286 w0 _ ?side1 ?side2 A2.out).mono ?_); (case side1 => repeat (first | (with_reducible first | exact HI0.out | apply IsS83.alloc | apply IsS83.drewN | apply IsS83.drew | apply IsS83.set_1 | refine IsS83.far ?_ NB0_277.out _) | exact HI0.out)); (case side2 => repeat (first | (with_reducible first | exact HB.out | apply qG | apply qD | apply qF | refine qC ?_ (IsS83.ge HI0.out) | refine qC ?_ GE277.out) | exact HB.out)); rintro e w60 ⟨v279, v282, rfl, ho0, ho1, hi, hb, hk⟩; refine ⟨_, rfl, ?_⟩; have n0_ := Aside0.mk (KeepBut.blk hk (g' := gb277) (o := .cells #[.slice none 0 0, .slice none 0 0, .int .i64 0, .int .i64 0] 26 (0, 0)) (bw_ BK277.out) NB277_0.out (by simp)); have n1_ := Aside0.mk (Kd.zJ ho0 (zA (w := w) (g := g) (row := none) (by repeat (first | (with_reducible first | exact HK.out | apply KeepBut.set_ | apply qJ | apply qM | apply qK | refine qO ?_ GW277.out _) | exact HK.out)))); have n2_ := Aside0.mk (Kd.zJ ho1 (zA (w := w) (g := g) (row := none) (by repeat (first | (with_reducible first | exact HK.out | apply KeepBut.set_ | apply qJ | apply qM | apply qK | refine qO ?_ GW277.out _) | exact HK.out)))); have n3_ := Aside0.mk (KeepBut.trans (by repeat (first | (with_reducible first | exact HK.out | apply KeepBut.set_ | apply qJ | apply qM | apply qK | refine qO ?_ GW277.out _) | exact HK.out)) hk (.inl rfl)); have n4_ := Aside0.mk (hb); have n5_ := Aside0.mk (hi); clear BK277; clear HK; clear HB; clear HI0; have BK277 := n0_; have HO280 := n1_; have HO283 := n2_; have HK := n3_; have HB := n4_; have HI0 := n5_; clear n0_ n1_ n2_ n3_ n4_ n5_; (try clear hb); (try clear hb2); (try clear hk); (try clear hi); (try clear ho0); (try clear ho1)) | ((with_reducible refine qZ (N := 3) rfl ?_); refine qY ?hg (N := 3) ?hd (cs := #[.slice none 0 0, .slice none 0 0, .int .i64 0, .int .i64 0]) (t := 26) ?hr ?_; (case hd => rfl); (case hg => rfl); (case hr => first | (go_simp; done) | (go_simp; rfl)); intro gb287 hg w61 hbox hb; have n0_ := Aside0.mk (Kd.zB (rw_ HO280.out) hb); have n1_ := Aside0.mk (Kd.zB (rw_ HO283.out) hb); have n2_ := Aside0.mk (IsS83.below (by repeat (first | (with_reducible first | exact HI0.out | apply IsS83.alloc | apply IsS83.drewN | apply IsS83.drew | apply IsS83.set_1 | refine IsS83.far ?_ NB0_277.out _) | exact HI0.out)) hb); have n3_ := Aside0.mk (qL (g := gb277) (o := .cells #[.slice none 0 0, .slice none 0 0, .int .i64 0, .int .i64 0] 26 (0, 0)) (bw_ BK277.out) hb); have n4_ := Aside0.mk (KeepBut.trans (by repeat (first | (with_reducible first | exact HK.out | apply KeepBut.set_ | apply qJ | apply qM | apply qK | refine qO ?_ GW277.out _) | exact HK.out)) (KeepBut.of_below hb g none) (.inl rfl)); have n5_ := Aside0.mk (qQ (by repeat (first | (with_reducible first | exact HB.out | apply qG | apply qD | apply qF | refine qC ?_ (IsS83.ge HI0.out) | refine qC ?_ GE277.out) | exact HB.out)) hb); have n6_ := Aside0.mk (hbox); have n7_ := Aside0.mk ((by rw [hg]; exact (zA (w := w) (g := g) (row := none) (by repeat (first | (with_reducible first | exact HK.out | apply KeepBut.set_ | apply qJ | apply qM | apply qK | refine qO ?_ GW277.out _) | exact HK.out))) : w.heap.size ≤ gb287)); have n8_ := Aside0.mk ((Nat.le_trans HW0.out (by rw [hg]; exact (zA (w := w) (g := g) (row := none) (by repeat (first | (with_reducible first | exact HK.out | apply KeepBut.set_ | apply qJ | apply qM | apply qK | refine qO ?_ GW277.out _) | exact HK.out))) : w.heap.size ≤ gb287) : w0.heap.size ≤ gb287)); have n9_ := Aside0.mk ((by rw [hg]; exact Nat.ne_of_lt (zE (g := gb277) (o := .cells #[.slice none 0 0, .slice none 0 0, .int .i64 0, .int .i64 0] 26 (0, 0)) (bw_ BK277.out)) : gb277 ≠ gb287)); have n10_ := Aside0.mk ((by rw [hg]; exact Nat.ne_of_gt (zE (g := gb277) (o := .cells #[.slice none 0 0, .slice none 0 0, .int .i64 0, .int .i64 0] 26 (0, 0)) (bw_ BK277.out)) : gb287 ≠ gb277)); have n11_ := Aside0.mk ((by rw [hg]; exact Nat.ne_of_lt (IsS83.lt (show IsS83 w0 _ g s0_0 t286 from by repeat (first | (with_reducible first | exact HI0.out | apply IsS83.alloc | apply IsS83.drewN | apply IsS83.drew | apply IsS83.set_1 | refine IsS83.far ?_ NB0_277.out _) | exact HI0.out))) : g ≠ gb287)); have n12_ := Aside0.mk ((by rw [hg]; exact Nat.ne_of_gt (IsS83.lt (show IsS83 w0 _ g s0_0 t286 from by repeat (first | (with_reducible first | exact HI0.out | apply IsS83.alloc | apply IsS83.drewN | apply IsS83.drew | apply IsS83.set_1 | refine IsS83.far ?_ NB0_277.out _) | exact HI0.out))) : gb287 ≠ g)); clear HO280; clear HO283; clear HI0; clear BK277; clear HK; clear HB; have HO280 := n0_; have HO283 := n1_; have HI0 := n2_; have BK277 := n3_; have HK := n4_; have HB := n5_; have BK287 := n6_; have GW287 := n7_; have GE287 := n8_; have NB277_287 := n9_; have NB287_277 := n10_; have NB0_287 := n11_; have NB287_0 := n12_; clear n0_ n1_ n2_ n3_ n4_ n5_ n6_ n7_ n8_ n9_ n10_ n11_ n12_; clear hb hbox hg; obtain ⟨Ao62, co62, eo62⟩ := Kd.zD HO280.out; subst eo62; have hnb63 := NB287_277.out; have hnc63 := NB277_287.out; have hnb64 := NB287_0.out; have hnc64 := NB0_287.out; have hcz65_0 : w61.cell? ⟨gb287, 0, none⟩ = some (.slice none 0 0) := (qA BK287.out 0).trans rfl; have hcz65_1 : w61.cell? ⟨gb287, 1, none⟩ = some (.slice none 0 0) := (qA BK287.out 1).trans rfl; have hcz65_2 : w61.cell? ⟨gb287, 2, none⟩ = some (.int .i64 0) := (qA BK287.out 2).trans rfl; have hcz65_3 : w61.cell? ⟨gb287, 3, none⟩ = some (.int .i64 0) := (qA BK287.out 3).trans rfl; have hfz65_0 := qB BK287.out 0; have hfz65_1 := qB BK287.out 1; have hfz65_2 := qB BK287.out 2; have hfz65_3 := qB BK287.out 3; obtain ⟨Ao66, co66, eo66⟩ := Kd.zD HO283.out; subst eo66) | ((with_reducible refine qX (f := 34) rfl ?_); refine zM (some 7) rfl rfl Try.func34 (by kernel_rfl) rfl #[.pointer (some ⟨g, 0, none⟩), .int .i64 24] rfl (by (try simp only [List.map_toArray, List.map_cons, List.map_nil]); first | done | rfl | (simp only [List.length_drop, List.length_take]; rfl)) ?_; (with_reducible refine (spec_l1Rd_pick.calls k g s0_0 t286 24 t288 t289 w0 _ ?side1 ?side2 A3.out).mono ?_); (case side1 => repeat (first | (with_reducible first | exact HI0.out | apply IsS83.alloc | apply IsS83.drewN | apply IsS83.drew | apply IsS83.set_1 | refine IsS83.far ?_ NB0_277.out _ | refine IsS83.far ?_ NB0_287.out _) | exact HI0.out)); (case side2 => repeat (first | (with_reducible first | exact HB.out | apply qG | apply qD | apply qF | refine qC ?_ (IsS83.ge HI0.out) | refine qC ?_ GE277.out | refine qC ?_ GE287.out) | exact HB.out)); rintro e w67 ⟨rfl, hi, hb, hk⟩; refine ⟨_, rfl, ?_⟩; have n0_ := Aside0.mk (KeepBut.blk hk (g' := gb277) (o := .cells #[.slice none 0 0, .slice none 0 0, .int .i64 0, .int .i64 0] 26 (0, 0)) (by (with_reducible repeat (first | refine qH ?_ _ | refine qI ?_ | refine qE ?_ _)); refine qR ?_ NB277_287.out _; (with_reducible repeat (first | refine qH ?_ _ | refine qI ?_ | refine qE ?_ _)); refine qR ?_ NB277_287.out _; (with_reducible repeat (first | refine qH ?_ _ | refine qI ?_ | refine qE ?_ _)); refine qR ?_ NB277_287.out _; (with_reducible repeat (first | refine qH ?_ _ | refine qI ?_ | refine qE ?_ _)); refine qR ?_ NB277_287.out _; (with_reducible repeat (first | refine qH ?_ _ | refine qI ?_ | refine qE ?_ _)); exact BK277.out) NB277_0.out (by simp)); have n1_ := Aside0.mk (Kd.qS (Kd.zN (IsS83.apart (show IsS83 w0 _ g s0_0 t286 from by repeat (first | (with_reducible first | exact HI0.out | apply IsS83.alloc | apply IsS83.drewN | apply IsS83.drew | apply IsS83.set_1 | refine IsS83.far ?_ NB0_277.out _ | refine IsS83.far ?_ NB0_287.out _) | exact HI0.out)) (by (with_reducible repeat (first | apply Kd.qU | apply Kd.qT | apply Kd.qV)); exact (Kd.qS (Kd.R_far (p := ⟨gb287, 3, none⟩) (Kd.R_far (p := ⟨gb287, 2, none⟩) (Kd.R_far (p := ⟨gb287, 1, none⟩) (Kd.R_far (p := ⟨gb287, 0, none⟩) (Kd.qW HO280.out BK287.out (by decide)) (fun _ hk => hk.2) (.slice Ao62 t278.length co62)) (fun _ hk => hk.2) (.slice Ao66 t281.length co66)) (fun _ hk => hk.2) (.int .i64 t284)) (fun _ hk => hk.2) (.int .i64 t285)) (fun _ h_ => h_.1))) (by decide)) hk (fun _ h => h.2)) (fun _ h => h.1)); have n2_ := Aside0.mk (Kd.qS (Kd.zN (IsS83.apart (show IsS83 w0 _ g s0_0 t286 from by repeat (first | (with_reducible first | exact HI0.out | apply IsS83.alloc | apply IsS83.drewN | apply IsS83.drew | apply IsS83.set_1 | refine IsS83.far ?_ NB0_277.out _ | refine IsS83.far ?_ NB0_287.out _) | exact HI0.out)) (by (with_reducible repeat (first | apply Kd.qU | apply Kd.qT | apply Kd.qV)); exact (Kd.qS (Kd.R_far (p := ⟨gb287, 3, none⟩) (Kd.R_far (p := ⟨gb287, 2, none⟩) (Kd.R_far (p := ⟨gb287, 1, none⟩) (Kd.R_far (p := ⟨gb287, 0, none⟩) (Kd.qW HO283.out BK287.out (by decide)) (fun _ hk => hk.2) (.slice Ao62 t278.length co62)) (fun _ hk => hk.2) (.slice Ao66 t281.length co66)) (fun _ hk => hk.2) (.int .i64 t284)) (fun _ hk => hk.2) (.int .i64 t285)) (fun _ h_ => h_.1))) (by decide)) hk (fun _ h => h.2)) (fun _ h => h.1)); have n3_ := Aside0.mk (KeepBut.blk hk (g' := gb287) (o := .cells #[.slice Ao62 t278.length co62, .slice Ao66 t281.length co66, .int .i64 t284, .int .i64 t285] 26 (0, 0)) (by (with_reducible repeat (first | refine qH ?_ _ | refine qI ?_ | refine qE ?_ _)); refine qN (cs := #[.slice Ao62 t278.length co62, .slice Ao66 t281.length co66, .int .i64 t284, .int .i64 0]) ?_ 3 _ rfl; (with_reducible repeat (first | refine qH ?_ _ | refine qI ?_ | refine qE ?_ _)); refine qN (cs := #[.slice Ao62 t278.length co62, .slice Ao66 t281.length co66, .int .i64 0, .int .i64 0]) ?_ 2 _ rfl; (with_reducible repeat (first | refine qH ?_ _ | refine qI ?_ | refine qE ?_ _)); refine qN (cs := #[.slice Ao62 t278.length co62, .slice none 0 0, .int .i64 0, .int .i64 0]) ?_ 1 _ rfl; (with_reducible repeat (first | refine qH ?_ _ | refine qI ?_ | refine qE ?_ _)); refine qN (cs := #[.slice none 0 0, .slice none 0 0, .int .i64 0, .int .i64 0]) ?_ 0 _ rfl; (with_reducible repeat (first | refine qH ?_ _ | refine qI ?_ | refine qE ?_ _)); exact BK287.out) NB287_0.out (by simp)); have n4_ := Aside0.mk (KeepBut.trans (by repeat (first | (with_reducible first | exact HK.out | apply KeepBut.set_ | apply qJ | apply qM | apply qK | refine qO ?_ GW277.out _ | refine qO ?_ GW287.out _) | exact HK.out)) hk (.inl rfl)); have n5_ := Aside0.mk (hb); have n6_ := Aside0.mk (hi); clear BK277; clear HO280; clear HO283; clear BK287; clear HK; clear HB; clear HI0; have BK277 := n0_; have HO280 := n1_; have HO283 := n2_; have BK287 := n3_; have HK := n4_; have HB := n5_; have HI0 := n6_; clear n0_ n1_ n2_ n3_ n4_ n5_ n6_; (try clear hb); (try clear hb2); (try clear hk); (try clear hi)))
            have n0_ := Aside0.mk (Kd.qV HO280.out)
            have n1_ := Aside0.mk (Kd.qV HO283.out)
            have n2_ := Aside0.mk (qI BK277.out)
            have n3_ := Aside0.mk (qI BK287.out)
            have n4_ := Aside0.mk (IsS83.drew HI0.out)
            have n5_ := Aside0.mk (qM HK.out)
            have n6_ := Aside0.mk (qF HB.out)
            clear HO280
            clear HO283
            clear BK277
            clear BK287
            clear HI0
            clear HK
            clear HB
            have HO280 := n0_
            have HO283 := n1_
            have BK277 := n2_
            have BK287 := n3_
            have HI0 := n4_
            have HK := n5_
            have HB := n6_
            clear n0_ n1_ n2_ n3_ n4_ n5_ n6_
            refine start_ (n := 5) (S := fun w' => w'.cell? ⟨gb287, 0, none⟩ = some (.slice Ao62 t278.length co62) ∧ w'.cell? ⟨gb287, 1, none⟩ = some (.slice Ao66 t281.length co66) ∧ w'.cell? ⟨gb287, 2, none⟩ = some (.int .i64 t284) ∧ w'.cell? ⟨gb287, 3, none⟩ = some (.int .i64 t285)) (ds := [4]) #[false, false, false, false, false] (by kernel_rfl) rfl rfl ⟨(qA BK287.out 0).trans rfl, (qA BK287.out 1).trans rfl, (qA BK287.out 2).trans rfl, (qA BK287.out 3).trans rfl⟩ (fun hHeld => ?_)
            generalize w67.drew = w68 at HO280 HO283 BK277 BK287 HI0 HK HB hHeld ⊢
            refine pure_ (i := 0) (N := some 30) (v := ?_) (a' := ?_) #[true, false, false, false, false] rfl rfl (by kernel_rfl) (fun _ _ _ h => h) (Or.inl ⟨by rfl, ?_⟩) ?_ ?_
            rotate_left
            · intro w'
              go_simp
              with_reducible rfl
            rotate_left
            · simp only [Act.put, List.setIfInBounds_toArray, List.set_cons_zero, List.set_cons_succ, i64_w, i32_w]
              rfl
            refine take_ (i := 1) (N := some 31) (v := ?_) (a' := ?_) #[true, true, false, false, false] rfl rfl (by kernel_rfl) (fun _ _ _ h => h) (Or.inl ⟨by rfl, ?_⟩) hHeld ?_ ?_
            rotate_left
            · rintro w' ⟨s0, s1, s2, s3⟩
              go_simp
              with_reducible rfl
            rotate_left
            · simp only [Act.put, List.setIfInBounds_toArray, List.set_cons_zero, List.set_cons_succ, i64_w, i32_w]
              rfl
            refine one_ (i := 2) (N := some 32) #[true, true, true, false, false] rfl rfl (by kernel_rfl) (by decide) (fun K hK => ?_)
            refine goes_ Try.func41 (by kernel_rfl) rfl #[.string (⟨#[99]⟩ : ByteArray), .int .i64 1201] (by rfl) rfl rfl (by (try simp only [List.map_toArray, List.map_cons, List.map_nil]); first | done | rfl | (simp only [List.length_drop, List.length_take]; rfl)) ?_
            with_reducible refine (spec_l1Many.calls k (⟨#[99]⟩ : ByteArray) 1201 t301 _ A56.out).mono ?_
            rintro e w' ⟨rfl, ⟨nd, rfl⟩⟩
            refine ⟨_, rfl, ?_⟩
            (try (rw [drewN_self w68]; generalize hq_ : World.drewN w68 _ = w68; have n0_ : Aside0 (Kd.R Kd.string 9 w68 w.heap.size (fun _ => True) (.slice Ao62 t278.length co62) t278) := ⟨by rw [← hq_]; exact (rw_ HO280.out)⟩; have n1_ : Aside0 (Kd.R k70 70 w68 w.heap.size (fun _ => True) (.slice Ao66 t281.length co66) t281) := ⟨by rw [← hq_]; exact (rw_ HO283.out)⟩; have n2_ : Aside0 (w68.heap[gb277]? = some (.cells #[.slice none 0 0, .slice none 0 0, .int .i64 0, .int .i64 0] 26 (0, 0))) := ⟨by rw [← hq_]; exact (bw_ BK277.out)⟩; have n3_ : Aside0 (w68.heap[gb287]? = some (.cells #[.slice Ao62 t278.length co62, .slice Ao66 t281.length co66, .int .i64 t284, .int .i64 t285] 26 (0, 0))) := ⟨by rw [← hq_]; exact (bw_ BK287.out)⟩; have n4_ : Aside0 (IsS83 w0 w68 g s0_0 t289) := ⟨by rw [← hq_]; exact (by repeat (first | (with_reducible first | exact HI0.out | apply IsS83.alloc | apply IsS83.drewN | apply IsS83.drew | apply IsS83.set_1 | refine IsS83.far ?_ NB0_277.out _ | refine IsS83.far ?_ NB0_287.out _) | exact HI0.out))⟩; have n5_ : Aside0 (KeepBut w w68 g none) := ⟨by rw [← hq_]; exact (by repeat (first | (with_reducible first | exact HK.out | apply KeepBut.set_ | apply qJ | apply qM | apply qK | refine qO ?_ GW277.out _ | refine qO ?_ GW287.out _) | exact HK.out))⟩; have n6_ : Aside0 (Below w0.heap.size w0 w68) := ⟨by rw [← hq_]; exact (by repeat (first | (with_reducible first | exact HB.out | apply qG | apply qD | apply qF | refine qC ?_ (IsS83.ge HI0.out) | refine qC ?_ GE277.out | refine qC ?_ GE287.out) | exact HB.out))⟩; clear HO280 HO283 BK277 BK287 HI0 HK HB hq_; have HO280 := n0_; have HO283 := n1_; have BK277 := n2_; have BK287 := n3_; have HI0 := n4_; have HK := n5_; have HB := n6_; clear n0_ n1_ n2_ n3_ n4_ n5_ n6_))
            have p58 : 0 ≤ (0 : Int) := (by omega)
            have q58 : (0 : Int) < ((t278.length : Int) : Int) := of_decide_eq_true (by first | (with_reducible assumption) | assumption)
            have qi58 : (0 < t278.length) = True := eq_true (by omega)
            obtain ⟨go58, co58, eo58, gb58, gl58, cl58, HG58⟩ := Kd.R_form HO280.out (by omega)
            (first | cases eo58 | (injection eo58 with ea_ en_ ec_; (first | subst ea_ | (injection ea_ with ea_; subst ea_)); subst ec_; clear en_))
            have GB58 := Aside0.mk gb58
            have GG58 := Aside0.mk HG58
            clear gb58 gl58 HG58
            obtain ⟨hx58_0, hf58_0⟩ := Kd.R_celln (⟨#[]⟩ : ByteArray) HO280.out (0 : Int) p58 q58
            (try rw [show ((0 : Int)).toNat = 0 from rfl] at hx58_0)
            (try simp only [Nat.reduceMul, Nat.zero_mul, Nat.zero_add, Nat.reduceAdd] at hx58_0)
            (try rw [show ((0 : Int)).toNat = 0 from rfl] at hf58_0)
            (try simp only [Nat.reduceMul, Nat.zero_mul, Nat.zero_add, Nat.reduceAdd] at hf58_0)
            replace p58 := eq_true p58
            replace q58 := eq_true q58
            have HN0_go58 := Aside0.mk (show g ≠ go58 from by have h_ := IsS83.own_ne HI0.out HO280.out (by decide); intro e_; exact h_ (by rw [e_]; rfl))
            have HP69 := Kd.R_putn HO280.out (0 : Int) t301
            rw [← Ny302.out] at HP69
            have HQ69 := Aside0.mk HP69
            clear HP69
            refine hK.out _ _ ⟨(qA BK287.out 0).trans rfl, (qA BK287.out 1).trans rfl, (qA BK287.out 2).trans rfl, (qA BK287.out 3).trans rfl⟩ (fun hHeld => ?_)
            clear hK K
            refine norm_ (a' := ?_) ?_ ?_
            rotate_left
            · show Act.put _ (some 32) _ = _
              simp only [Act.put, List.setIfInBounds_toArray, List.set_cons_zero, List.set_cons_succ, i64_w, i32_w]
              rfl
            refine pure_ (i := 3) (N := some 33) (v := ?_) (a' := ?_) #[true, true, true, true, false] rfl rfl (by kernel_rfl) (fun _ _ _ h => h) (Or.inl ⟨by rfl, ?_⟩) ?_ ?_
            rotate_left
            · intro w'
              go_simp
              with_reducible rfl
            rotate_left
            · simp only [Act.put, List.setIfInBounds_toArray, List.set_cons_zero, List.set_cons_succ, i64_w, i32_w]
              rfl
            refine last_ (i := 4) (N := none) #[true, true, true, true, true] rfl rfl (by kernel_rfl) (by decide) (fun K hK => ?_)
            refine skip_ (w1 := ?_) (by rfl) rfl ?_ ?_
            rotate_left
            · go_simp
              rfl
            refine hK.out _ _ ?_
            clear hK K
            refine done_ (by kernel_rfl) ?_
            have n0_ : Aside0 (Kd.R Kd.string 9 (w68.setCell ⟨go58, 0, none⟩ (.string t301)) w.heap.size (fun _ => True) (.slice (some ⟨go58, 0, none⟩) t278.length co62) y302) := ⟨by (with_reducible repeat (first | apply Kd.qU | apply Kd.qT | apply Kd.qV)); exact HQ69.out⟩
            have n1_ : Aside0 (Kd.R k70 70 (w68.setCell ⟨go58, 0, none⟩ (.string t301)) w.heap.size (fun _ => True) (.slice Ao66 t281.length co66) t281) := ⟨by (with_reducible repeat (first | apply Kd.qU | apply Kd.qT | apply Kd.qV)); exact Kd.qS (Kd.R_far (p := ⟨go58, 0, none⟩) (Kd.qW HO283.out GG58.out (by decide)) (fun _ hk => hk.2) (.string t301)) (fun _ hk => trivial)⟩
            have n2_ : Aside0 ((w68.setCell ⟨go58, 0, none⟩ (.string t301)).heap[gb277]? = some (.cells #[.slice none 0 0, .slice none 0 0, .int .i64 0, .int .i64 0] 26 (0, 0))) := ⟨by (with_reducible repeat (first | refine qH ?_ _ | refine qI ?_ | refine qE ?_ _)); refine qR ?_ (by have h_ := Kd.R_ne HO280.out BK277.out (by decide); intro e_; exact h_ (by rw [e_]; rfl)) _; (with_reducible repeat (first | refine qH ?_ _ | refine qI ?_ | refine qE ?_ _)); exact BK277.out⟩
            have n3_ : Aside0 ((w68.setCell ⟨go58, 0, none⟩ (.string t301)).heap[gb287]? = some (.cells #[.slice (some ⟨go58, 0, none⟩) t278.length co62, .slice Ao66 t281.length co66, .int .i64 t284, .int .i64 t285] 26 (0, 0))) := ⟨by (with_reducible repeat (first | refine qH ?_ _ | refine qI ?_ | refine qE ?_ _)); refine qR ?_ (by have h_ := Kd.R_ne HO280.out BK287.out (by decide); intro e_; exact h_ (by rw [e_]; rfl)) _; (with_reducible repeat (first | refine qH ?_ _ | refine qI ?_ | refine qE ?_ _)); exact BK287.out⟩
            have n4_ : Aside0 (IsS83 w0 (w68.setCell ⟨go58, 0, none⟩ (.string t301)) g s0_0 t289) := ⟨by repeat (first | (with_reducible first | exact HI0.out | apply IsS83.alloc | apply IsS83.drewN | apply IsS83.drew | apply IsS83.set_1 | refine IsS83.far ?_ HN0_go58.out _ | refine IsS83.far ?_ NB0_277.out _ | refine IsS83.far ?_ NB0_287.out _) | exact HI0.out)⟩
            have n5_ : Aside0 (KeepBut w (w68.setCell ⟨go58, 0, none⟩ (.string t301)) g none) := ⟨by repeat (first | (with_reducible first | exact HK.out | apply KeepBut.set_ | apply qJ | apply qM | apply qK | refine qO ?_ GB58.out _ | refine qO ?_ GW277.out _ | refine qO ?_ GW287.out _) | exact HK.out)⟩
            have n6_ : Aside0 (Below w0.heap.size w0 (w68.setCell ⟨go58, 0, none⟩ (.string t301))) := ⟨by repeat (first | (with_reducible first | exact HB.out | apply qG | apply qD | apply qF | refine qC ?_ (Nat.le_trans HL.out GB58.out) | refine qC ?_ (IsS83.ge HI0.out) | refine qC ?_ GE277.out | refine qC ?_ GE287.out) | exact HB.out)⟩
            (try clear HO280)
            (try clear HO283)
            (try clear BK277)
            (try clear BK287)
            (try clear HI0)
            (try clear HK)
            (try clear HB)
            generalize (w68.setCell ⟨go58, 0, none⟩ (.string t301)) = w70 at n0_ n1_ n2_ n3_ n4_ n5_ n6_ ⊢
            have HO280 := n0_
            have HO283 := n1_
            have BK277 := n2_
            have BK287 := n3_
            have HI0 := n4_
            have HK := n5_
            have HB := n6_
            clear n0_ n1_ n2_ n3_ n4_ n5_ n6_
            have hcz71_0 : w70.cell? ⟨gb287, 0, none⟩ = some (.slice (some ⟨go58, 0, none⟩) t278.length co62) := (qA BK287.out 0).trans rfl
            have hcz71_1 : w70.cell? ⟨gb287, 1, none⟩ = some (.slice Ao66 t281.length co66) := (qA BK287.out 1).trans rfl
            have hcz71_2 : w70.cell? ⟨gb287, 2, none⟩ = some (.int .i64 t284) := (qA BK287.out 2).trans rfl
            have hcz71_3 : w70.cell? ⟨gb287, 3, none⟩ = some (.int .i64 t285) := (qA BK287.out 3).trans rfl
            have hfz71_0 := qB BK287.out 0
            have hfz71_1 := qB BK287.out 1
            have hfz71_2 := qB BK287.out 2
            have hfz71_3 := qB BK287.out 3
            have hnb72 := NB277_0.out
            have hnc72 := NB0_277.out
            have hcz73_0 : w70.cell? ⟨gb277, 0, none⟩ = some (.slice none 0 0) := (qA BK277.out 0).trans rfl
            have hcz73_1 : w70.cell? ⟨gb277, 1, none⟩ = some (.slice none 0 0) := (qA BK277.out 1).trans rfl
            have hcz73_2 : w70.cell? ⟨gb277, 2, none⟩ = some (.int .i64 0) := (qA BK277.out 2).trans rfl
            have hcz73_3 : w70.cell? ⟨gb277, 3, none⟩ = some (.int .i64 0) := (qA BK277.out 3).trans rfl
            have hfz73_0 := qB BK277.out 0
            have hfz73_1 := qB BK277.out 1
            have hfz73_2 := qB BK277.out 2
            have hfz73_3 := qB BK277.out 3
            try go_wp2
            refine bodyPost_ret (results_cell_row rfl _ _ gb277 26 #[.slice (some ⟨go58, 0, none⟩) t278.length co62, .slice Ao66 t281.length co66, .int .i64 t284, .int .i64 t285] (0, 0) _ rfl (by (with_reducible repeat (first | refine qH ?_ _ | refine qI ?_ | refine qE ?_ _)); refine qN (cs := #[.slice (some ⟨go58, 0, none⟩) t278.length co62, .slice Ao66 t281.length co66, .int .i64 t284, .int .i64 0]) ?_ 3 _ rfl; (with_reducible repeat (first | refine qH ?_ _ | refine qI ?_ | refine qE ?_ _)); refine qN (cs := #[.slice (some ⟨go58, 0, none⟩) t278.length co62, .slice Ao66 t281.length co66, .int .i64 0, .int .i64 0]) ?_ 2 _ rfl; (with_reducible repeat (first | refine qH ?_ _ | refine qI ?_ | refine qE ?_ _)); refine qN (cs := #[.slice (some ⟨go58, 0, none⟩) t278.length co62, .slice none 0 0, .int .i64 0, .int .i64 0]) ?_ 1 _ rfl; (with_reducible repeat (first | refine qH ?_ _ | refine qI ?_ | refine qE ?_ _)); refine qN (cs := #[.slice none 0 0, .slice none 0 0, .int .i64 0, .int .i64 0]) ?_ 0 _ rfl; (with_reducible repeat (first | refine qH ?_ _ | refine qI ?_ | refine qE ?_ _)); exact BK277.out) Try.underlying26 rfl (by kernel_rfl)) rfl ?_
            exact ⟨_, _, by first | rfl | (simp [errW_none, errW_some] <;> rfl) | (simp [*, errW_none, errW_some] <;> rfl), Kd.Q_of_R (by (with_reducible repeat (first | apply Kd.qU | apply Kd.qT | apply Kd.qV)); exact Kd.qS (Kd.R_far (p := ⟨gb277, 3, none⟩) (Kd.R_far (p := ⟨gb277, 2, none⟩) (Kd.R_far (p := ⟨gb277, 1, none⟩) (Kd.R_far (p := ⟨gb277, 0, none⟩) (Kd.qW HO280.out BK277.out (by decide)) (fun _ hk => hk.2) (.slice (some ⟨go58, 0, none⟩) t278.length co62)) (fun _ hk => hk.2) (.slice Ao66 t281.length co66)) (fun _ hk => hk.2) (.int .i64 t284)) (fun _ hk => hk.2) (.int .i64 t285)) (fun _ hk => trivial)), by (with_reducible repeat (first | apply Kd.qU | apply Kd.qT | apply Kd.qV)); exact Kd.qS (Kd.R_far (p := ⟨gb277, 3, none⟩) (Kd.R_far (p := ⟨gb277, 2, none⟩) (Kd.R_far (p := ⟨gb277, 1, none⟩) (Kd.R_far (p := ⟨gb277, 0, none⟩) (Kd.qW HO283.out BK277.out (by decide)) (fun _ hk => hk.2) (.slice (some ⟨go58, 0, none⟩) t278.length co62)) (fun _ hk => hk.2) (.slice Ao66 t281.length co66)) (fun _ hk => hk.2) (.int .i64 t284)) (fun _ hk => hk.2) (.int .i64 t285)) (fun _ hk => trivial), by repeat (first | (with_reducible first | exact HI0.out | apply IsS83.alloc | apply IsS83.drewN | apply IsS83.drew | apply IsS83.set_1 | refine IsS83.far ?_ NB0_277.out _ | refine IsS83.far ?_ NB0_287.out _) | exact HI0.out), by repeat (first | (with_reducible first | exact HB.out | apply qG | apply qD | apply qF | refine qC ?_ (IsS83.ge HI0.out) | refine qC ?_ GE277.out | refine qC ?_ GE287.out) | exact HB.out), by repeat (first | (with_reducible first | exact HK.out | apply KeepBut.set_ | apply qJ | apply qM | apply qK | refine qO ?_ GW277.out _ | refine qO ?_ GW287.out _) | exact HK.out)⟩
          · rw [if_neg c57] at H
            exact absurd H (by simp)
        · rw [if_neg c55] at H
          have c55b0 : (t288 == 3) = false := beq_eq_false_iff_ne.mpr c55
          have c55b1 : (t288 != 3) = true := bne_iff_ne.mpr c55
          by_cases c74 : t288 = 4
          · rw [if_pos c74] at H
            have c74b0 : (t288 == 4) = true := beq_iff_eq.mpr c74
            have c74b1 : (t288 != 4) = false := bne_eq_false_iff_eq.mpr c74
            clear c74
            simp only [Option.some.injEq, Prod.mk.injEq] at H
            obtain ⟨rfl, rfl, rfl, rfl, rfl⟩ := H
            go_enter Try.func33, Try.ntmps33
            go_wp2_with (first | ((with_reducible refine qZ (N := 2) rfl ?_); refine qY ?hg (N := 2) ?hd (cs := #[.slice none 0 0, .slice none 0 0, .int .i64 0, .int .i64 0]) (t := 26) ?hr ?_; (case hd => rfl); (case hg => rfl); (case hr => first | (go_simp; done) | (go_simp; rfl)); intro gb277 hg w75 hbox hb; have n0_ := Aside0.mk (IsS83.below (by repeat (first | (with_reducible first | exact HI0.out | apply IsS83.alloc | apply IsS83.drewN | apply IsS83.drew | apply IsS83.set_1) | exact HI0.out)) hb); have n1_ := Aside0.mk (KeepBut.trans (by repeat (first | (with_reducible first | exact HK.out | apply KeepBut.set_ | apply qJ | apply qM | apply qK) | exact HK.out)) (KeepBut.of_below hb g none) (.inl rfl)); have n2_ := Aside0.mk (qQ (by repeat (first | (with_reducible first | exact HB.out | apply qG | apply qD | apply qF | refine qC ?_ (IsS83.ge HI0.out)) | exact HB.out)) hb); have n3_ := Aside0.mk (hbox); have n4_ := Aside0.mk ((by rw [hg]; exact (zA (w := w) (g := g) (row := none) (by repeat (first | (with_reducible first | exact HK.out | apply KeepBut.set_ | apply qJ | apply qM | apply qK) | exact HK.out))) : w.heap.size ≤ gb277)); have n5_ := Aside0.mk ((Nat.le_trans HW0.out (by rw [hg]; exact (zA (w := w) (g := g) (row := none) (by repeat (first | (with_reducible first | exact HK.out | apply KeepBut.set_ | apply qJ | apply qM | apply qK) | exact HK.out))) : w.heap.size ≤ gb277) : w0.heap.size ≤ gb277)); have n6_ := Aside0.mk ((by rw [hg]; exact Nat.ne_of_lt (IsS83.lt (show IsS83 w0 _ g s0_0 s0_1 from by repeat (first | (with_reducible first | exact HI0.out | apply IsS83.alloc | apply IsS83.drewN | apply IsS83.drew | apply IsS83.set_1) | exact HI0.out))) : g ≠ gb277)); have n7_ := Aside0.mk ((by rw [hg]; exact Nat.ne_of_gt (IsS83.lt (show IsS83 w0 _ g s0_0 s0_1 from by repeat (first | (with_reducible first | exact HI0.out | apply IsS83.alloc | apply IsS83.drewN | apply IsS83.drew | apply IsS83.set_1) | exact HI0.out))) : gb277 ≠ g)); clear HI0; clear HK; clear HB; have HI0 := n0_; have HK := n1_; have HB := n2_; have BK277 := n3_; have GW277 := n4_; have GE277 := n5_; have NB0_277 := n6_; have NB277_0 := n7_; clear n0_ n1_ n2_ n3_ n4_ n5_ n6_ n7_; clear hb hbox hg) | ((with_reducible refine qX (f := 65) rfl ?_); refine zM (some 5) rfl rfl Try.func65 (by kernel_rfl) rfl #[.pointer (some ⟨g, 0, none⟩)] rfl (by (try simp only [List.map_toArray, List.map_cons, List.map_nil]); first | done | rfl | (simp only [List.length_drop, List.length_take]; rfl)) ?_; (with_reducible refine (spec_l15Disk.calls k g s0_0 s0_1 t278 t281 t284 t285 t286 w0 _ ?side1 ?side2 A2.out).mono ?_); (case side1 => repeat (first | (with_reducible first | exact HI0.out | apply IsS83.alloc | apply IsS83.drewN | apply IsS83.drew | apply IsS83.set_1 | refine IsS83.far ?_ NB0_277.out _) | exact HI0.out)); (case side2 => repeat (first | (with_reducible first | exact HB.out | apply qG | apply qD | apply qF | refine qC ?_ (IsS83.ge HI0.out) | refine qC ?_ GE277.out) | exact HB.out)); rintro e w76 ⟨v279, v282, rfl, ho0, ho1, hi, hb, hk⟩; refine ⟨_, rfl, ?_⟩; have n0_ := Aside0.mk (KeepBut.blk hk (g' := gb277) (o := .cells #[.slice none 0 0, .slice none 0 0, .int .i64 0, .int .i64 0] 26 (0, 0)) (bw_ BK277.out) NB277_0.out (by simp)); have n1_ := Aside0.mk (Kd.zJ ho0 (zA (w := w) (g := g) (row := none) (by repeat (first | (with_reducible first | exact HK.out | apply KeepBut.set_ | apply qJ | apply qM | apply qK | refine qO ?_ GW277.out _) | exact HK.out)))); have n2_ := Aside0.mk (Kd.zJ ho1 (zA (w := w) (g := g) (row := none) (by repeat (first | (with_reducible first | exact HK.out | apply KeepBut.set_ | apply qJ | apply qM | apply qK | refine qO ?_ GW277.out _) | exact HK.out)))); have n3_ := Aside0.mk (KeepBut.trans (by repeat (first | (with_reducible first | exact HK.out | apply KeepBut.set_ | apply qJ | apply qM | apply qK | refine qO ?_ GW277.out _) | exact HK.out)) hk (.inl rfl)); have n4_ := Aside0.mk (hb); have n5_ := Aside0.mk (hi); clear BK277; clear HK; clear HB; clear HI0; have BK277 := n0_; have HO280 := n1_; have HO283 := n2_; have HK := n3_; have HB := n4_; have HI0 := n5_; clear n0_ n1_ n2_ n3_ n4_ n5_; (try clear hb); (try clear hb2); (try clear hk); (try clear hi); (try clear ho0); (try clear ho1)) | ((with_reducible refine qZ (N := 3) rfl ?_); refine qY ?hg (N := 3) ?hd (cs := #[.slice none 0 0, .slice none 0 0, .int .i64 0, .int .i64 0]) (t := 26) ?hr ?_; (case hd => rfl); (case hg => rfl); (case hr => first | (go_simp; done) | (go_simp; rfl)); intro gb287 hg w77 hbox hb; have n0_ := Aside0.mk (Kd.zB (rw_ HO280.out) hb); have n1_ := Aside0.mk (Kd.zB (rw_ HO283.out) hb); have n2_ := Aside0.mk (IsS83.below (by repeat (first | (with_reducible first | exact HI0.out | apply IsS83.alloc | apply IsS83.drewN | apply IsS83.drew | apply IsS83.set_1 | refine IsS83.far ?_ NB0_277.out _) | exact HI0.out)) hb); have n3_ := Aside0.mk (qL (g := gb277) (o := .cells #[.slice none 0 0, .slice none 0 0, .int .i64 0, .int .i64 0] 26 (0, 0)) (bw_ BK277.out) hb); have n4_ := Aside0.mk (KeepBut.trans (by repeat (first | (with_reducible first | exact HK.out | apply KeepBut.set_ | apply qJ | apply qM | apply qK | refine qO ?_ GW277.out _) | exact HK.out)) (KeepBut.of_below hb g none) (.inl rfl)); have n5_ := Aside0.mk (qQ (by repeat (first | (with_reducible first | exact HB.out | apply qG | apply qD | apply qF | refine qC ?_ (IsS83.ge HI0.out) | refine qC ?_ GE277.out) | exact HB.out)) hb); have n6_ := Aside0.mk (hbox); have n7_ := Aside0.mk ((by rw [hg]; exact (zA (w := w) (g := g) (row := none) (by repeat (first | (with_reducible first | exact HK.out | apply KeepBut.set_ | apply qJ | apply qM | apply qK | refine qO ?_ GW277.out _) | exact HK.out))) : w.heap.size ≤ gb287)); have n8_ := Aside0.mk ((Nat.le_trans HW0.out (by rw [hg]; exact (zA (w := w) (g := g) (row := none) (by repeat (first | (with_reducible first | exact HK.out | apply KeepBut.set_ | apply qJ | apply qM | apply qK | refine qO ?_ GW277.out _) | exact HK.out))) : w.heap.size ≤ gb287) : w0.heap.size ≤ gb287)); have n9_ := Aside0.mk ((by rw [hg]; exact Nat.ne_of_lt (zE (g := gb277) (o := .cells #[.slice none 0 0, .slice none 0 0, .int .i64 0, .int .i64 0] 26 (0, 0)) (bw_ BK277.out)) : gb277 ≠ gb287)); have n10_ := Aside0.mk ((by rw [hg]; exact Nat.ne_of_gt (zE (g := gb277) (o := .cells #[.slice none 0 0, .slice none 0 0, .int .i64 0, .int .i64 0] 26 (0, 0)) (bw_ BK277.out)) : gb287 ≠ gb277)); have n11_ := Aside0.mk ((by rw [hg]; exact Nat.ne_of_lt (IsS83.lt (show IsS83 w0 _ g s0_0 t286 from by repeat (first | (with_reducible first | exact HI0.out | apply IsS83.alloc | apply IsS83.drewN | apply IsS83.drew | apply IsS83.set_1 | refine IsS83.far ?_ NB0_277.out _) | exact HI0.out))) : g ≠ gb287)); have n12_ := Aside0.mk ((by rw [hg]; exact Nat.ne_of_gt (IsS83.lt (show IsS83 w0 _ g s0_0 t286 from by repeat (first | (with_reducible first | exact HI0.out | apply IsS83.alloc | apply IsS83.drewN | apply IsS83.drew | apply IsS83.set_1 | refine IsS83.far ?_ NB0_277.out _) | exact HI0.out))) : gb287 ≠ g)); clear HO280; clear HO283; clear HI0; clear BK277; clear HK; clear HB; have HO280 := n0_; have HO283 := n1_; have HI0 := n2_; have BK277 := n3_; have HK := n4_; have HB := n5_; have BK287 := n6_; have GW287 := n7_; have GE287 := n8_; have NB277_287 := n9_; have NB287_277 := n10_; have NB0_287 := n11_; have NB287_0 := n12_; clear n0_ n1_ n2_ n3_ n4_ n5_ n6_ n7_ n8_ n9_ n10_ n11_ n12_; clear hb hbox hg; obtain ⟨Ao78, co78, eo78⟩ := Kd.zD HO280.out; subst eo78; have hnb79 := NB287_277.out; have hnc79 := NB277_287.out; have hnb80 := NB287_0.out; have hnc80 := NB0_287.out; have hcz81_0 : w77.cell? ⟨gb287, 0, none⟩ = some (.slice none 0 0) := (qA BK287.out 0).trans rfl; have hcz81_1 : w77.cell? ⟨gb287, 1, none⟩ = some (.slice none 0 0) := (qA BK287.out 1).trans rfl; have hcz81_2 : w77.cell? ⟨gb287, 2, none⟩ = some (.int .i64 0) := (qA BK287.out 2).trans rfl; have hcz81_3 : w77.cell? ⟨gb287, 3, none⟩ = some (.int .i64 0) := (qA BK287.out 3).trans rfl; have hfz81_0 := qB BK287.out 0; have hfz81_1 := qB BK287.out 1; have hfz81_2 := qB BK287.out 2; have hfz81_3 := qB BK287.out 3; obtain ⟨Ao82, co82, eo82⟩ := Kd.zD HO283.out; subst eo82) | ((with_reducible refine qX (f := 34) rfl ?_); refine zM (some 7) rfl rfl Try.func34 (by kernel_rfl) rfl #[.pointer (some ⟨g, 0, none⟩), .int .i64 24] rfl (by (try simp only [List.map_toArray, List.map_cons, List.map_nil]); first | done | rfl | (simp only [List.length_drop, List.length_take]; rfl)) ?_; (with_reducible refine (spec_l1Rd_pick.calls k g s0_0 t286 24 t288 t289 w0 _ ?side1 ?side2 A3.out).mono ?_); (case side1 => repeat (first | (with_reducible first | exact HI0.out | apply IsS83.alloc | apply IsS83.drewN | apply IsS83.drew | apply IsS83.set_1 | refine IsS83.far ?_ NB0_277.out _ | refine IsS83.far ?_ NB0_287.out _) | exact HI0.out)); (case side2 => repeat (first | (with_reducible first | exact HB.out | apply qG | apply qD | apply qF | refine qC ?_ (IsS83.ge HI0.out) | refine qC ?_ GE277.out | refine qC ?_ GE287.out) | exact HB.out)); rintro e w83 ⟨rfl, hi, hb, hk⟩; refine ⟨_, rfl, ?_⟩; have n0_ := Aside0.mk (KeepBut.blk hk (g' := gb277) (o := .cells #[.slice none 0 0, .slice none 0 0, .int .i64 0, .int .i64 0] 26 (0, 0)) (by (with_reducible repeat (first | refine qH ?_ _ | refine qI ?_ | refine qE ?_ _)); refine qR ?_ NB277_287.out _; (with_reducible repeat (first | refine qH ?_ _ | refine qI ?_ | refine qE ?_ _)); refine qR ?_ NB277_287.out _; (with_reducible repeat (first | refine qH ?_ _ | refine qI ?_ | refine qE ?_ _)); refine qR ?_ NB277_287.out _; (with_reducible repeat (first | refine qH ?_ _ | refine qI ?_ | refine qE ?_ _)); refine qR ?_ NB277_287.out _; (with_reducible repeat (first | refine qH ?_ _ | refine qI ?_ | refine qE ?_ _)); exact BK277.out) NB277_0.out (by simp)); have n1_ := Aside0.mk (Kd.qS (Kd.zN (IsS83.apart (show IsS83 w0 _ g s0_0 t286 from by repeat (first | (with_reducible first | exact HI0.out | apply IsS83.alloc | apply IsS83.drewN | apply IsS83.drew | apply IsS83.set_1 | refine IsS83.far ?_ NB0_277.out _ | refine IsS83.far ?_ NB0_287.out _) | exact HI0.out)) (by (with_reducible repeat (first | apply Kd.qU | apply Kd.qT | apply Kd.qV)); exact (Kd.qS (Kd.R_far (p := ⟨gb287, 3, none⟩) (Kd.R_far (p := ⟨gb287, 2, none⟩) (Kd.R_far (p := ⟨gb287, 1, none⟩) (Kd.R_far (p := ⟨gb287, 0, none⟩) (Kd.qW HO280.out BK287.out (by decide)) (fun _ hk => hk.2) (.slice Ao78 t278.length co78)) (fun _ hk => hk.2) (.slice Ao82 t281.length co82)) (fun _ hk => hk.2) (.int .i64 t284)) (fun _ hk => hk.2) (.int .i64 t285)) (fun _ h_ => h_.1))) (by decide)) hk (fun _ h => h.2)) (fun _ h => h.1)); have n2_ := Aside0.mk (Kd.qS (Kd.zN (IsS83.apart (show IsS83 w0 _ g s0_0 t286 from by repeat (first | (with_reducible first | exact HI0.out | apply IsS83.alloc | apply IsS83.drewN | apply IsS83.drew | apply IsS83.set_1 | refine IsS83.far ?_ NB0_277.out _ | refine IsS83.far ?_ NB0_287.out _) | exact HI0.out)) (by (with_reducible repeat (first | apply Kd.qU | apply Kd.qT | apply Kd.qV)); exact (Kd.qS (Kd.R_far (p := ⟨gb287, 3, none⟩) (Kd.R_far (p := ⟨gb287, 2, none⟩) (Kd.R_far (p := ⟨gb287, 1, none⟩) (Kd.R_far (p := ⟨gb287, 0, none⟩) (Kd.qW HO283.out BK287.out (by decide)) (fun _ hk => hk.2) (.slice Ao78 t278.length co78)) (fun _ hk => hk.2) (.slice Ao82 t281.length co82)) (fun _ hk => hk.2) (.int .i64 t284)) (fun _ hk => hk.2) (.int .i64 t285)) (fun _ h_ => h_.1))) (by decide)) hk (fun _ h => h.2)) (fun _ h => h.1)); have n3_ := Aside0.mk (KeepBut.blk hk (g' := gb287) (o := .cells #[.slice Ao78 t278.length co78, .slice Ao82 t281.length co82, .int .i64 t284, .int .i64 t285] 26 (0, 0)) (by (with_reducible repeat (first | refine qH ?_ _ | refine qI ?_ | refine qE ?_ _)); refine qN (cs := #[.slice Ao78 t278.length co78, .slice Ao82 t281.length co82, .int .i64 t284, .int .i64 0]) ?_ 3 _ rfl; (with_reducible repeat (first | refine qH ?_ _ | refine qI ?_ | refine qE ?_ _)); refine qN (cs := #[.slice Ao78 t278.length co78, .slice Ao82 t281.length co82, .int .i64 0, .int .i64 0]) ?_ 2 _ rfl; (with_reducible repeat (first | refine qH ?_ _ | refine qI ?_ | refine qE ?_ _)); refine qN (cs := #[.slice Ao78 t278.length co78, .slice none 0 0, .int .i64 0, .int .i64 0]) ?_ 1 _ rfl; (with_reducible repeat (first | refine qH ?_ _ | refine qI ?_ | refine qE ?_ _)); refine qN (cs := #[.slice none 0 0, .slice none 0 0, .int .i64 0, .int .i64 0]) ?_ 0 _ rfl; (with_reducible repeat (first | refine qH ?_ _ | refine qI ?_ | refine qE ?_ _)); exact BK287.out) NB287_0.out (by simp)); have n4_ := Aside0.mk (KeepBut.trans (by repeat (first | (with_reducible first | exact HK.out | apply KeepBut.set_ | apply qJ | apply qM | apply qK | refine qO ?_ GW277.out _ | refine qO ?_ GW287.out _) | exact HK.out)) hk (.inl rfl)); have n5_ := Aside0.mk (hb); have n6_ := Aside0.mk (hi); clear BK277; clear HO280; clear HO283; clear BK287; clear HK; clear HB; clear HI0; have BK277 := n0_; have HO280 := n1_; have HO283 := n2_; have BK287 := n3_; have HK := n4_; have HB := n5_; have HI0 := n6_; clear n0_ n1_ n2_ n3_ n4_ n5_ n6_; (try clear hb); (try clear hb2); (try clear hk); (try clear hi); have hcz84_0 : w83.cell? ⟨gb287, 0, none⟩ = some (.slice Ao78 t278.length co78) := (qA BK287.out 0).trans rfl; have hcz84_1 : w83.cell? ⟨gb287, 1, none⟩ = some (.slice Ao82 t281.length co82) := (qA BK287.out 1).trans rfl; have hcz84_2 : w83.cell? ⟨gb287, 2, none⟩ = some (.int .i64 t284) := (qA BK287.out 2).trans rfl; have hcz84_3 : w83.cell? ⟨gb287, 3, none⟩ = some (.int .i64 t285) := (qA BK287.out 3).trans rfl; have hfz84_0 := qB BK287.out 0; have hfz84_1 := qB BK287.out 1; have hfz84_2 := qB BK287.out 2; have hfz84_3 := qB BK287.out 3; have hnb85 := NB277_0.out; have hnc85 := NB0_277.out; have hcz86_0 : w83.cell? ⟨gb277, 0, none⟩ = some (.slice none 0 0) := (qA BK277.out 0).trans rfl; have hcz86_1 : w83.cell? ⟨gb277, 1, none⟩ = some (.slice none 0 0) := (qA BK277.out 1).trans rfl; have hcz86_2 : w83.cell? ⟨gb277, 2, none⟩ = some (.int .i64 0) := (qA BK277.out 2).trans rfl; have hcz86_3 : w83.cell? ⟨gb277, 3, none⟩ = some (.int .i64 0) := (qA BK277.out 3).trans rfl; have hfz86_0 := qB BK277.out 0; have hfz86_1 := qB BK277.out 1; have hfz86_2 := qB BK277.out 2; have hfz86_3 := qB BK277.out 3))
            refine bodyPost_ret (results_cell_row rfl _ _ gb277 26 #[.slice Ao78 t278.length co78, .slice Ao82 t281.length co82, .int .i64 t284, .int .i64 (-2)] (0, 0) _ rfl (by (with_reducible repeat (first | refine qH ?_ _ | refine qI ?_ | refine qE ?_ _)); refine qN (cs := #[.slice Ao78 t278.length co78, .slice Ao82 t281.length co82, .int .i64 t284, .int .i64 0]) ?_ 3 _ rfl; (with_reducible repeat (first | refine qH ?_ _ | refine qI ?_ | refine qE ?_ _)); refine qN (cs := #[.slice Ao78 t278.length co78, .slice Ao82 t281.length co82, .int .i64 0, .int .i64 0]) ?_ 2 _ rfl; (with_reducible repeat (first | refine qH ?_ _ | refine qI ?_ | refine qE ?_ _)); refine qN (cs := #[.slice Ao78 t278.length co78, .slice none 0 0, .int .i64 0, .int .i64 0]) ?_ 1 _ rfl; (with_reducible repeat (first | refine qH ?_ _ | refine qI ?_ | refine qE ?_ _)); refine qN (cs := #[.slice none 0 0, .slice none 0 0, .int .i64 0, .int .i64 0]) ?_ 0 _ rfl; (with_reducible repeat (first | refine qH ?_ _ | refine qI ?_ | refine qE ?_ _)); refine qR ?_ NB277_287.out _; (with_reducible repeat (first | refine qH ?_ _ | refine qI ?_ | refine qE ?_ _)); exact BK277.out) Try.underlying26 rfl (by kernel_rfl)) rfl ?_
            exact ⟨_, _, by first | rfl | (simp [errW_none, errW_some] <;> rfl) | (simp [*, errW_none, errW_some] <;> rfl), Kd.Q_of_R (by (with_reducible repeat (first | apply Kd.qU | apply Kd.qT | apply Kd.qV)); exact Kd.qS (Kd.R_far (p := ⟨gb277, 3, none⟩) (Kd.R_far (p := ⟨gb277, 2, none⟩) (Kd.R_far (p := ⟨gb277, 1, none⟩) (Kd.R_far (p := ⟨gb277, 0, none⟩) (Kd.R_far (p := ⟨gb287, 3, none⟩) (Kd.qW (Kd.qW HO280.out BK287.out (by decide)) BK277.out (by decide)) (fun _ hk => hk.1.2) (.int .i64 (-2))) (fun _ hk => hk.2) (.slice Ao78 t278.length co78)) (fun _ hk => hk.2) (.slice Ao82 t281.length co82)) (fun _ hk => hk.2) (.int .i64 t284)) (fun _ hk => hk.2) (.int .i64 (-2))) (fun _ hk => trivial)), by (with_reducible repeat (first | apply Kd.qU | apply Kd.qT | apply Kd.qV)); exact Kd.qS (Kd.R_far (p := ⟨gb277, 3, none⟩) (Kd.R_far (p := ⟨gb277, 2, none⟩) (Kd.R_far (p := ⟨gb277, 1, none⟩) (Kd.R_far (p := ⟨gb277, 0, none⟩) (Kd.R_far (p := ⟨gb287, 3, none⟩) (Kd.qW (Kd.qW HO283.out BK287.out (by decide)) BK277.out (by decide)) (fun _ hk => hk.1.2) (.int .i64 (-2))) (fun _ hk => hk.2) (.slice Ao78 t278.length co78)) (fun _ hk => hk.2) (.slice Ao82 t281.length co82)) (fun _ hk => hk.2) (.int .i64 t284)) (fun _ hk => hk.2) (.int .i64 (-2))) (fun _ hk => trivial), by repeat (first | (with_reducible first | exact HI0.out | apply IsS83.alloc | apply IsS83.drewN | apply IsS83.drew | apply IsS83.set_1 | refine IsS83.far ?_ NB0_277.out _ | refine IsS83.far ?_ NB0_287.out _) | exact HI0.out), by repeat (first | (with_reducible first | exact HB.out | apply qG | apply qD | apply qF | refine qC ?_ (IsS83.ge HI0.out) | refine qC ?_ GE277.out | refine qC ?_ GE287.out) | exact HB.out), by repeat (first | (with_reducible first | exact HK.out | apply KeepBut.set_ | apply qJ | apply qM | apply qK | refine qO ?_ GW277.out _ | refine qO ?_ GW287.out _) | exact HK.out)⟩
          · rw [if_neg c74] at H
            have c74b0 : (t288 == 4) = false := beq_eq_false_iff_ne.mpr c74
            have c74b1 : (t288 != 4) = true := bne_iff_ne.mpr c74
            by_cases c87 : t288 = 5
            · rw [if_pos c87] at H
              have c87b0 : (t288 == 5) = true := beq_iff_eq.mpr c87
              have c87b1 : (t288 != 5) = false := bne_eq_false_iff_eq.mpr c87
              clear c87
              have H' := Aside0.mk H
              clear H
              go_enter Try.func33, Try.ntmps33
              go_wp2_with (first | ((with_reducible refine qZ (N := 2) rfl ?_); refine qY ?hg (N := 2) ?hd (cs := #[.slice none 0 0, .slice none 0 0, .int .i64 0, .int .i64 0]) (t := 26) ?hr ?_; (case hd => rfl); (case hg => rfl); (case hr => first | (go_simp; done) | (go_simp; rfl)); intro gb277 hg w88 hbox hb; have n0_ := Aside0.mk (IsS83.below (by repeat (first | (with_reducible first | exact HI0.out | apply IsS83.alloc | apply IsS83.drewN | apply IsS83.drew | apply IsS83.set_1) | exact HI0.out)) hb); have n1_ := Aside0.mk (KeepBut.trans (by repeat (first | (with_reducible first | exact HK.out | apply KeepBut.set_ | apply qJ | apply qM | apply qK) | exact HK.out)) (KeepBut.of_below hb g none) (.inl rfl)); have n2_ := Aside0.mk (qQ (by repeat (first | (with_reducible first | exact HB.out | apply qG | apply qD | apply qF | refine qC ?_ (IsS83.ge HI0.out)) | exact HB.out)) hb); have n3_ := Aside0.mk (hbox); have n4_ := Aside0.mk ((by rw [hg]; exact (zA (w := w) (g := g) (row := none) (by repeat (first | (with_reducible first | exact HK.out | apply KeepBut.set_ | apply qJ | apply qM | apply qK) | exact HK.out))) : w.heap.size ≤ gb277)); have n5_ := Aside0.mk ((Nat.le_trans HW0.out (by rw [hg]; exact (zA (w := w) (g := g) (row := none) (by repeat (first | (with_reducible first | exact HK.out | apply KeepBut.set_ | apply qJ | apply qM | apply qK) | exact HK.out))) : w.heap.size ≤ gb277) : w0.heap.size ≤ gb277)); have n6_ := Aside0.mk ((by rw [hg]; exact Nat.ne_of_lt (IsS83.lt (show IsS83 w0 _ g s0_0 s0_1 from by repeat (first | (with_reducible first | exact HI0.out | apply IsS83.alloc | apply IsS83.drewN | apply IsS83.drew | apply IsS83.set_1) | exact HI0.out))) : g ≠ gb277)); have n7_ := Aside0.mk ((by rw [hg]; exact Nat.ne_of_gt (IsS83.lt (show IsS83 w0 _ g s0_0 s0_1 from by repeat (first | (with_reducible first | exact HI0.out | apply IsS83.alloc | apply IsS83.drewN | apply IsS83.drew | apply IsS83.set_1) | exact HI0.out))) : gb277 ≠ g)); clear HI0; clear HK; clear HB; have HI0 := n0_; have HK := n1_; have HB := n2_; have BK277 := n3_; have GW277 := n4_; have GE277 := n5_; have NB0_277 := n6_; have NB277_0 := n7_; clear n0_ n1_ n2_ n3_ n4_ n5_ n6_ n7_; clear hb hbox hg) | ((with_reducible refine qX (f := 65) rfl ?_); refine zM (some 5) rfl rfl Try.func65 (by kernel_rfl) rfl #[.pointer (some ⟨g, 0, none⟩)] rfl (by (try simp only [List.map_toArray, List.map_cons, List.map_nil]); first | done | rfl | (simp only [List.length_drop, List.length_take]; rfl)) ?_; (with_reducible refine (spec_l15Disk.calls k g s0_0 s0_1 t278 t281 t284 t285 t286 w0 _ ?side1 ?side2 A2.out).mono ?_); (case side1 => repeat (first | (with_reducible first | exact HI0.out | apply IsS83.alloc | apply IsS83.drewN | apply IsS83.drew | apply IsS83.set_1 | refine IsS83.far ?_ NB0_277.out _) | exact HI0.out)); (case side2 => repeat (first | (with_reducible first | exact HB.out | apply qG | apply qD | apply qF | refine qC ?_ (IsS83.ge HI0.out) | refine qC ?_ GE277.out) | exact HB.out)); rintro e w89 ⟨v279, v282, rfl, ho0, ho1, hi, hb, hk⟩; refine ⟨_, rfl, ?_⟩; have n0_ := Aside0.mk (KeepBut.blk hk (g' := gb277) (o := .cells #[.slice none 0 0, .slice none 0 0, .int .i64 0, .int .i64 0] 26 (0, 0)) (bw_ BK277.out) NB277_0.out (by simp)); have n1_ := Aside0.mk (Kd.zJ ho0 (zA (w := w) (g := g) (row := none) (by repeat (first | (with_reducible first | exact HK.out | apply KeepBut.set_ | apply qJ | apply qM | apply qK | refine qO ?_ GW277.out _) | exact HK.out)))); have n2_ := Aside0.mk (Kd.zJ ho1 (zA (w := w) (g := g) (row := none) (by repeat (first | (with_reducible first | exact HK.out | apply KeepBut.set_ | apply qJ | apply qM | apply qK | refine qO ?_ GW277.out _) | exact HK.out)))); have n3_ := Aside0.mk (KeepBut.trans (by repeat (first | (with_reducible first | exact HK.out | apply KeepBut.set_ | apply qJ | apply qM | apply qK | refine qO ?_ GW277.out _) | exact HK.out)) hk (.inl rfl)); have n4_ := Aside0.mk (hb); have n5_ := Aside0.mk (hi); clear BK277; clear HK; clear HB; clear HI0; have BK277 := n0_; have HO280 := n1_; have HO283 := n2_; have HK := n3_; have HB := n4_; have HI0 := n5_; clear n0_ n1_ n2_ n3_ n4_ n5_; (try clear hb); (try clear hb2); (try clear hk); (try clear hi); (try clear ho0); (try clear ho1)) | ((with_reducible refine qZ (N := 3) rfl ?_); refine qY ?hg (N := 3) ?hd (cs := #[.slice none 0 0, .slice none 0 0, .int .i64 0, .int .i64 0]) (t := 26) ?hr ?_; (case hd => rfl); (case hg => rfl); (case hr => first | (go_simp; done) | (go_simp; rfl)); intro gb287 hg w90 hbox hb; have n0_ := Aside0.mk (Kd.zB (rw_ HO280.out) hb); have n1_ := Aside0.mk (Kd.zB (rw_ HO283.out) hb); have n2_ := Aside0.mk (IsS83.below (by repeat (first | (with_reducible first | exact HI0.out | apply IsS83.alloc | apply IsS83.drewN | apply IsS83.drew | apply IsS83.set_1 | refine IsS83.far ?_ NB0_277.out _) | exact HI0.out)) hb); have n3_ := Aside0.mk (qL (g := gb277) (o := .cells #[.slice none 0 0, .slice none 0 0, .int .i64 0, .int .i64 0] 26 (0, 0)) (bw_ BK277.out) hb); have n4_ := Aside0.mk (KeepBut.trans (by repeat (first | (with_reducible first | exact HK.out | apply KeepBut.set_ | apply qJ | apply qM | apply qK | refine qO ?_ GW277.out _) | exact HK.out)) (KeepBut.of_below hb g none) (.inl rfl)); have n5_ := Aside0.mk (qQ (by repeat (first | (with_reducible first | exact HB.out | apply qG | apply qD | apply qF | refine qC ?_ (IsS83.ge HI0.out) | refine qC ?_ GE277.out) | exact HB.out)) hb); have n6_ := Aside0.mk (hbox); have n7_ := Aside0.mk ((by rw [hg]; exact (zA (w := w) (g := g) (row := none) (by repeat (first | (with_reducible first | exact HK.out | apply KeepBut.set_ | apply qJ | apply qM | apply qK | refine qO ?_ GW277.out _) | exact HK.out))) : w.heap.size ≤ gb287)); have n8_ := Aside0.mk ((Nat.le_trans HW0.out (by rw [hg]; exact (zA (w := w) (g := g) (row := none) (by repeat (first | (with_reducible first | exact HK.out | apply KeepBut.set_ | apply qJ | apply qM | apply qK | refine qO ?_ GW277.out _) | exact HK.out))) : w.heap.size ≤ gb287) : w0.heap.size ≤ gb287)); have n9_ := Aside0.mk ((by rw [hg]; exact Nat.ne_of_lt (zE (g := gb277) (o := .cells #[.slice none 0 0, .slice none 0 0, .int .i64 0, .int .i64 0] 26 (0, 0)) (bw_ BK277.out)) : gb277 ≠ gb287)); have n10_ := Aside0.mk ((by rw [hg]; exact Nat.ne_of_gt (zE (g := gb277) (o := .cells #[.slice none 0 0, .slice none 0 0, .int .i64 0, .int .i64 0] 26 (0, 0)) (bw_ BK277.out)) : gb287 ≠ gb277)); have n11_ := Aside0.mk ((by rw [hg]; exact Nat.ne_of_lt (IsS83.lt (show IsS83 w0 _ g s0_0 t286 from by repeat (first | (with_reducible first | exact HI0.out | apply IsS83.alloc | apply IsS83.drewN | apply IsS83.drew | apply IsS83.set_1 | refine IsS83.far ?_ NB0_277.out _) | exact HI0.out))) : g ≠ gb287)); have n12_ := Aside0.mk ((by rw [hg]; exact Nat.ne_of_gt (IsS83.lt (show IsS83 w0 _ g s0_0 t286 from by repeat (first | (with_reducible first | exact HI0.out | apply IsS83.alloc | apply IsS83.drewN | apply IsS83.drew | apply IsS83.set_1 | refine IsS83.far ?_ NB0_277.out _) | exact HI0.out))) : gb287 ≠ g)); clear HO280; clear HO283; clear HI0; clear BK277; clear HK; clear HB; have HO280 := n0_; have HO283 := n1_; have HI0 := n2_; have BK277 := n3_; have HK := n4_; have HB := n5_; have BK287 := n6_; have GW287 := n7_; have GE287 := n8_; have NB277_287 := n9_; have NB287_277 := n10_; have NB0_287 := n11_; have NB287_0 := n12_; clear n0_ n1_ n2_ n3_ n4_ n5_ n6_ n7_ n8_ n9_ n10_ n11_ n12_; clear hb hbox hg; obtain ⟨Ao91, co91, eo91⟩ := Kd.zD HO280.out; subst eo91; have hnb92 := NB287_277.out; have hnc92 := NB277_287.out; have hnb93 := NB287_0.out; have hnc93 := NB0_287.out; have hcz94_0 : w90.cell? ⟨gb287, 0, none⟩ = some (.slice none 0 0) := (qA BK287.out 0).trans rfl; have hcz94_1 : w90.cell? ⟨gb287, 1, none⟩ = some (.slice none 0 0) := (qA BK287.out 1).trans rfl; have hcz94_2 : w90.cell? ⟨gb287, 2, none⟩ = some (.int .i64 0) := (qA BK287.out 2).trans rfl; have hcz94_3 : w90.cell? ⟨gb287, 3, none⟩ = some (.int .i64 0) := (qA BK287.out 3).trans rfl; have hfz94_0 := qB BK287.out 0; have hfz94_1 := qB BK287.out 1; have hfz94_2 := qB BK287.out 2; have hfz94_3 := qB BK287.out 3; obtain ⟨Ao95, co95, eo95⟩ := Kd.zD HO283.out; subst eo95) | ((with_reducible refine qX (f := 34) rfl ?_); refine zM (some 7) rfl rfl Try.func34 (by kernel_rfl) rfl #[.pointer (some ⟨g, 0, none⟩), .int .i64 24] rfl (by (try simp only [List.map_toArray, List.map_cons, List.map_nil]); first | done | rfl | (simp only [List.length_drop, List.length_take]; rfl)) ?_; (with_reducible refine (spec_l1Rd_pick.calls k g s0_0 t286 24 t288 t289 w0 _ ?side1 ?side2 A3.out).mono ?_); (case side1 => repeat (first | (with_reducible first | exact HI0.out | apply IsS83.alloc | apply IsS83.drewN | apply IsS83.drew | apply IsS83.set_1 | refine IsS83.far ?_ NB0_277.out _ | refine IsS83.far ?_ NB0_287.out _) | exact HI0.out)); (case side2 => repeat (first | (with_reducible first | exact HB.out | apply qG | apply qD | apply qF | refine qC ?_ (IsS83.ge HI0.out) | refine qC ?_ GE277.out | refine qC ?_ GE287.out) | exact HB.out)); rintro e w96 ⟨rfl, hi, hb, hk⟩; refine ⟨_, rfl, ?_⟩; have n0_ := Aside0.mk (KeepBut.blk hk (g' := gb277) (o := .cells #[.slice none 0 0, .slice none 0 0, .int .i64 0, .int .i64 0] 26 (0, 0)) (by (with_reducible repeat (first | refine qH ?_ _ | refine qI ?_ | refine qE ?_ _)); refine qR ?_ NB277_287.out _; (with_reducible repeat (first | refine qH ?_ _ | refine qI ?_ | refine qE ?_ _)); refine qR ?_ NB277_287.out _; (with_reducible repeat (first | refine qH ?_ _ | refine qI ?_ | refine qE ?_ _)); refine qR ?_ NB277_287.out _; (with_reducible repeat (first | refine qH ?_ _ | refine qI ?_ | refine qE ?_ _)); refine qR ?_ NB277_287.out _; (with_reducible repeat (first | refine qH ?_ _ | refine qI ?_ | refine qE ?_ _)); exact BK277.out) NB277_0.out (by simp)); have n1_ := Aside0.mk (Kd.qS (Kd.zN (IsS83.apart (show IsS83 w0 _ g s0_0 t286 from by repeat (first | (with_reducible first | exact HI0.out | apply IsS83.alloc | apply IsS83.drewN | apply IsS83.drew | apply IsS83.set_1 | refine IsS83.far ?_ NB0_277.out _ | refine IsS83.far ?_ NB0_287.out _) | exact HI0.out)) (by (with_reducible repeat (first | apply Kd.qU | apply Kd.qT | apply Kd.qV)); exact (Kd.qS (Kd.R_far (p := ⟨gb287, 3, none⟩) (Kd.R_far (p := ⟨gb287, 2, none⟩) (Kd.R_far (p := ⟨gb287, 1, none⟩) (Kd.R_far (p := ⟨gb287, 0, none⟩) (Kd.qW HO280.out BK287.out (by decide)) (fun _ hk => hk.2) (.slice Ao91 t278.length co91)) (fun _ hk => hk.2) (.slice Ao95 t281.length co95)) (fun _ hk => hk.2) (.int .i64 t284)) (fun _ hk => hk.2) (.int .i64 t285)) (fun _ h_ => h_.1))) (by decide)) hk (fun _ h => h.2)) (fun _ h => h.1)); have n2_ := Aside0.mk (Kd.qS (Kd.zN (IsS83.apart (show IsS83 w0 _ g s0_0 t286 from by repeat (first | (with_reducible first | exact HI0.out | apply IsS83.alloc | apply IsS83.drewN | apply IsS83.drew | apply IsS83.set_1 | refine IsS83.far ?_ NB0_277.out _ | refine IsS83.far ?_ NB0_287.out _) | exact HI0.out)) (by (with_reducible repeat (first | apply Kd.qU | apply Kd.qT | apply Kd.qV)); exact (Kd.qS (Kd.R_far (p := ⟨gb287, 3, none⟩) (Kd.R_far (p := ⟨gb287, 2, none⟩) (Kd.R_far (p := ⟨gb287, 1, none⟩) (Kd.R_far (p := ⟨gb287, 0, none⟩) (Kd.qW HO283.out BK287.out (by decide)) (fun _ hk => hk.2) (.slice Ao91 t278.length co91)) (fun _ hk => hk.2) (.slice Ao95 t281.length co95)) (fun _ hk => hk.2) (.int .i64 t284)) (fun _ hk => hk.2) (.int .i64 t285)) (fun _ h_ => h_.1))) (by decide)) hk (fun _ h => h.2)) (fun _ h => h.1)); have n3_ := Aside0.mk (KeepBut.blk hk (g' := gb287) (o := .cells #[.slice Ao91 t278.length co91, .slice Ao95 t281.length co95, .int .i64 t284, .int .i64 t285] 26 (0, 0)) (by (with_reducible repeat (first | refine qH ?_ _ | refine qI ?_ | refine qE ?_ _)); refine qN (cs := #[.slice Ao91 t278.length co91, .slice Ao95 t281.length co95, .int .i64 t284, .int .i64 0]) ?_ 3 _ rfl; (with_reducible repeat (first | refine qH ?_ _ | refine qI ?_ | refine qE ?_ _)); refine qN (cs := #[.slice Ao91 t278.length co91, .slice Ao95 t281.length co95, .int .i64 0, .int .i64 0]) ?_ 2 _ rfl; (with_reducible repeat (first | refine qH ?_ _ | refine qI ?_ | refine qE ?_ _)); refine qN (cs := #[.slice Ao91 t278.length co91, .slice none 0 0, .int .i64 0, .int .i64 0]) ?_ 1 _ rfl; (with_reducible repeat (first | refine qH ?_ _ | refine qI ?_ | refine qE ?_ _)); refine qN (cs := #[.slice none 0 0, .slice none 0 0, .int .i64 0, .int .i64 0]) ?_ 0 _ rfl; (with_reducible repeat (first | refine qH ?_ _ | refine qI ?_ | refine qE ?_ _)); exact BK287.out) NB287_0.out (by simp)); have n4_ := Aside0.mk (KeepBut.trans (by repeat (first | (with_reducible first | exact HK.out | apply KeepBut.set_ | apply qJ | apply qM | apply qK | refine qO ?_ GW277.out _ | refine qO ?_ GW287.out _) | exact HK.out)) hk (.inl rfl)); have n5_ := Aside0.mk (hb); have n6_ := Aside0.mk (hi); clear BK277; clear HO280; clear HO283; clear BK287; clear HK; clear HB; clear HI0; have BK277 := n0_; have HO280 := n1_; have HO283 := n2_; have BK287 := n3_; have HK := n4_; have HB := n5_; have HI0 := n6_; clear n0_ n1_ n2_ n3_ n4_ n5_ n6_; (try clear hb); (try clear hb2); (try clear hk); (try clear hi)))
              go_loopg [] k (fun kq w' => ∃ (x1001_1 : Int) (x288001_1 : List (S70)) (u288001 : Value), Aside0 (spec_l15AnyDisk.l0 kq s0_0 x1001_1 t278 x288001_1 t284 t285 = some (r1, r2, r3, r4, r5)) ∧ Aside0 (kq ≤ k) ∧ Aside0 (Kd.Q Kd.string 9 w' w.heap.size (fun _ => True) (.slice Ao91 t278.length co91) t278) ∧ Aside0 (Kd.R k70 70 w' w.heap.size (fun _ => True) u288001 x288001_1) ∧ Aside0 (w'.heap[gb277]? = some (.cells #[(.slice none 0 0), (.slice none 0 0), .int .i64 0, .int .i64 0] 26 (0, 0))) ∧ Aside0 (w'.heap[gb287]? = some (.cells #[(.slice Ao91 t278.length co91), u288001, .int .i64 t284, .int .i64 t285] 26 (0, 0))) ∧ Aside0 (IsS83 w0 w' g s0_0 x1001_1) ∧ Aside0 (KeepBut w w' g none) ∧ Aside0 (Below w0.heap.size w0 w'))
              case atStart => exact ⟨(t289), (t281), (.slice Ao95 t281.length co95), H', ⟨Nat.le_refl _⟩, ⟨Kd.Q_of_R (rw_ HO280.out)⟩, ⟨by (with_reducible repeat (first | apply Kd.qU | apply Kd.qT | apply Kd.qV)); exact HO283.out⟩, ⟨by (with_reducible repeat (first | refine qH ?_ _ | refine qI ?_ | refine qE ?_ _)); exact BK277.out⟩, ⟨by (with_reducible repeat (first | refine qH ?_ _ | refine qI ?_ | refine qE ?_ _)); exact BK287.out⟩, ⟨by repeat (first | (with_reducible first | exact HI0.out | apply IsS83.alloc | apply IsS83.drewN | apply IsS83.drew | apply IsS83.set_1 | refine IsS83.far ?_ NB0_277.out _ | refine IsS83.far ?_ NB0_287.out _) | exact HI0.out)⟩, ⟨by repeat (first | (with_reducible first | exact HK.out | apply KeepBut.set_ | apply qJ | apply qM | apply qK | refine qO ?_ GW277.out _ | refine qO ?_ GW287.out _) | exact HK.out)⟩, ⟨by repeat (first | (with_reducible first | exact HB.out | apply qG | apply qD | apply qF | refine qC ?_ (IsS83.ge HI0.out) | refine qC ?_ GE277.out | refine qC ?_ GE287.out) | exact HB.out)⟩⟩
              case round =>
                clear H'
                try clear c1
                try clear q1
                try clear c2
                try clear p2
                try clear c3
                try clear c4
                try clear c4b0
                try clear c4b1
                try clear c5
                try clear c5b0
                try clear c5b1
                try clear p5
                try clear q5
                try clear hx5
                try clear qi5
                try clear hf5
                try clear c6
                try clear c7
                try clear c8
                try clear c9
                try clear c10
                try clear c11
                try clear c16
                try clear q16
                try clear c17
                try clear c19
                try clear c19b0
                try clear c19b1
                try clear c24
                try clear c25
                try clear c30
                try clear c32
                try clear c32b0
                try clear c32b1
                try clear c33
                try clear c34
                try clear c39
                try clear c40
                try clear c41
                try clear c53
                try clear c55
                try clear c55b0
                try clear c55b1
                try clear c57
                try clear c57b0
                try clear c57b1
                try clear p58
                try clear q58
                try clear hx58
                try clear qi58
                try clear hf58
                try clear c63
                try clear c64
                try clear c65
                try clear c72
                try clear c74
                try clear c74b0
                try clear c74b1
                try clear c79
                try clear c80
                try clear c85
                try clear c87
                try clear c87b0
                try clear c87b1
                try clear c92
                try clear c93
                try clear hcz12_0
                try clear hcz12_1
                try clear hcz12_2
                try clear hcz12_3
                try clear hcz15_0
                try clear hcz15_1
                try clear hcz15_2
                try clear hcz15_3
                try clear hcz18_0
                try clear hcz18_1
                try clear hcz18_2
                try clear hcz18_3
                try clear hcz26_0
                try clear hcz26_1
                try clear hcz26_2
                try clear hcz26_3
                try clear hcz29_0
                try clear hcz29_1
                try clear hcz29_2
                try clear hcz29_3
                try clear hcz31_0
                try clear hcz31_1
                try clear hcz31_2
                try clear hcz31_3
                try clear hcz41_0
                try clear hcz41_1
                try clear hcz41_2
                try clear hcz41_3
                try clear hcz52_0
                try clear hcz52_1
                try clear hcz52_2
                try clear hcz52_3
                try clear hcz54_0
                try clear hcz54_1
                try clear hcz54_2
                try clear hcz54_3
                try clear hcz65_0
                try clear hcz65_1
                try clear hcz65_2
                try clear hcz65_3
                try clear hcz71_0
                try clear hcz71_1
                try clear hcz71_2
                try clear hcz71_3
                try clear hcz73_0
                try clear hcz73_1
                try clear hcz73_2
                try clear hcz73_3
                try clear hcz81_0
                try clear hcz81_1
                try clear hcz81_2
                try clear hcz81_3
                try clear hcz84_0
                try clear hcz84_1
                try clear hcz84_2
                try clear hcz84_3
                try clear hcz86_0
                try clear hcz86_1
                try clear hcz86_2
                try clear hcz86_3
                try clear hcz94_0
                try clear hcz94_1
                try clear hcz94_2
                try clear hcz94_3
                try clear hfz12_0
                try clear hfz12_1
                try clear hfz12_2
                try clear hfz12_3
                try clear hfz15_0
                try clear hfz15_1
                try clear hfz15_2
                try clear hfz15_3
                try clear hfz18_0
                try clear hfz18_1
                try clear hfz18_2
                try clear hfz18_3
                try clear hfz26_0
                try clear hfz26_1
                try clear hfz26_2
                try clear hfz26_3
                try clear hfz29_0
                try clear hfz29_1
                try clear hfz29_2
                try clear hfz29_3
                try clear hfz31_0
                try clear hfz31_1
                try clear hfz31_2
                try clear hfz31_3
                try clear hfz41_0
                try clear hfz41_1
                try clear hfz41_2
                try clear hfz41_3
                try clear hfz52_0
                try clear hfz52_1
                try clear hfz52_2
                try clear hfz52_3
                try clear hfz54_0
                try clear hfz54_1
                try clear hfz54_2
                try clear hfz54_3
                try clear hfz65_0
                try clear hfz65_1
                try clear hfz65_2
                try clear hfz65_3
                try clear hfz71_0
                try clear hfz71_1
                try clear hfz71_2
                try clear hfz71_3
                try clear hfz73_0
                try clear hfz73_1
                try clear hfz73_2
                try clear hfz73_3
                try clear hfz81_0
                try clear hfz81_1
                try clear hfz81_2
                try clear hfz81_3
                try clear hfz84_0
                try clear hfz84_1
                try clear hfz84_2
                try clear hfz84_3
                try clear hfz86_0
                try clear hfz86_1
                try clear hfz86_2
                try clear hfz86_3
                try clear hfz94_0
                try clear hfz94_1
                try clear hfz94_2
                try clear hfz94_3
                try clear hx58_0
                try clear p58
                try clear q16
                try clear q58
                obtain ⟨x1001_1, x288001_1, u288001, HA, HK1, HO_288000, HO_288001, BK277, BK287, HI0, HK, HB⟩ := hrel
                cases gk with
                | zero => exact absurd HA.out (by simp [spec_l15AnyDisk.l0])
                | succ k1 =>
                  have H := HA.out
                  clear HA
                  simp only [spec_l15AnyDisk.l0] at H
                  replace H := Option.bind_eq_some_iff.mp H
                  obtain ⟨⟨t303, t304⟩, A970, H⟩ := H
                  replace H : (if (x288001_1.length : Int) < (wrap64 (100 + t303)) then (if x288001_1.length < 5864062014805 then (spec_l15AnyDisk.l0 k1 s0_0 t304 t278 (x288001_1 ++ [(⟨5, (⟨#[119]⟩ : ByteArray)⟩ : S70)]) t284 t285) else (none)) else (some (t278, x288001_1, t284, t285, t304))) = some (r1, r2, r3, r4, r5) := H
                  have A97 := Aside0.mk A970
                  clear A970
                  by_cases c98 : (x288001_1.length : Int) < (wrap64 (100 + t303))
                  · rw [if_pos c98] at H
                    have c98b0 : decide ((x288001_1.length : Int) < (wrap64 (100 + t303))) = true := decide_eq_true c98
                    clear c98
                    by_cases c99 : x288001_1.length < 5864062014805
                    · rw [if_pos c99] at H
                      have LMc99 := Aside0.mk c99
                      clear c99
                      obtain ⟨y305, hy305⟩ : ∃ y_ : List (S70), y_ = (x288001_1 ++ [(⟨5, (⟨#[119]⟩ : ByteArray)⟩ : S70)]) := ⟨_, rfl⟩
                      replace H : (spec_l15AnyDisk.l0 k1 s0_0 t304 t278 y305 t284 t285) = some (r1, r2, r3, r4, r5) := by first | (rw [hy305]; with_reducible exact H) | (have H2_ := (Option.bind_some _ _).symm.trans H; rw [hy305]; with_reducible exact H2_) | (have H2_ := (Option.bind_some _ _).symm.trans H; with_reducible exact H2_) | with_reducible exact H | (rw [hy305]; exact H) | exact H
                      have Ny305 := Aside0.mk hy305
                      clear hy305
                      have H' := Aside0.mk H
                      clear H
                      try go_wp2
                      have n0_ := Aside0.mk (Kd.zP HO_288000.out)
                      have n1_ := Aside0.mk (Kd.qV HO_288001.out)
                      have n2_ := Aside0.mk (qI BK277.out)
                      have n3_ := Aside0.mk (qI BK287.out)
                      have n4_ := Aside0.mk (IsS83.drew HI0.out)
                      have n5_ := Aside0.mk (qM HK.out)
                      have n6_ := Aside0.mk (qF HB.out)
                      clear HO_288000
                      clear HO_288001
                      clear BK277
                      clear BK287
                      clear HI0
                      clear HK
                      clear HB
                      have HO_288000 := n0_
                      have HO_288001 := n1_
                      have BK277 := n2_
                      have BK287 := n3_
                      have HI0 := n4_
                      have HK := n5_
                      have HB := n6_
                      clear n0_ n1_ n2_ n3_ n4_ n5_ n6_
                      obtain ⟨Ao101, co101, eo101⟩ := Kd.zD HO_288001.out
                      (first | subst eo101 | (injection eo101 with f1_ f2_ f3_; have f4_ := f1_.symm; have f5_ := f3_.symm; clear f1_ f2_ f3_; subst f4_; subst f5_))
                      refine start_ (n := 7) (S := fun w' => w'.cell? ⟨gb287, 0, none⟩ = some (.slice Ao91 t278.length co91) ∧ w'.cell? ⟨gb287, 1, none⟩ = some (.slice Ao101 x288001_1.length co101) ∧ w'.cell? ⟨gb287, 2, none⟩ = some (.int .i64 t284) ∧ w'.cell? ⟨gb287, 3, none⟩ = some (.int .i64 t285)) (ds := []) #[false, false, false, false, false, false, false] (by kernel_rfl) rfl rfl ⟨(qA BK287.out 0).trans rfl, (qA BK287.out 1).trans rfl, (qA BK287.out 2).trans rfl, (qA BK287.out 3).trans rfl⟩ (fun hHeld => ?_)
                      generalize wr.drew = w100 at HO_288000 HO_288001 BK277 BK287 HI0 HK HB hHeld ⊢
                      refine pure_ (i := 0) (N := some 39) (v := ?_) (a' := ?_) #[true, false, false, false, false, false, false] rfl rfl (by kernel_rfl) (fun _ _ _ h => h) (Or.inl ⟨by rfl, ?_⟩) ?_ ?_
                      rotate_left
                      · intro w'
                        go_simp
                        with_reducible rfl
                      rotate_left
                      · simp only [Act.put, List.setIfInBounds_toArray, List.set_cons_zero, List.set_cons_succ, i64_w, i32_w]
                        rfl
                      refine pure_ (i := 3) (N := some 42) (v := ?_) (a' := ?_) #[true, false, false, true, false, false, false] rfl rfl (by kernel_rfl) (fun _ _ _ h => h) (Or.inl ⟨by rfl, ?_⟩) ?_ ?_
                      rotate_left
                      · intro w'
                        go_simp
                        with_reducible rfl
                      rotate_left
                      · simp only [Act.put, List.setIfInBounds_toArray, List.set_cons_zero, List.set_cons_succ, i64_w, i32_w]
                        rfl
                      refine take_ (i := 1) (N := some 40) (v := ?_) (a' := ?_) #[true, true, false, true, false, false, false] rfl rfl (by kernel_rfl) (fun _ _ _ h => h) (Or.inl ⟨by rfl, ?_⟩) hHeld ?_ ?_
                      rotate_left
                      · rintro w' ⟨s0, s1, s2, s3⟩
                        go_simp
                        with_reducible rfl
                      rotate_left
                      · simp only [Act.put, List.setIfInBounds_toArray, List.set_cons_zero, List.set_cons_succ, i64_w, i32_w]
                        rfl
                      refine pure_ (i := 2) (N := some 41) (v := ?_) (a' := ?_) #[true, true, true, true, false, false, false] rfl rfl (by kernel_rfl) (fun _ _ _ h => h) (Or.inl ⟨by rfl, ?_⟩) ?_ ?_
                      rotate_left
                      · intro w'
                        go_simp
                        with_reducible rfl
                      rotate_left
                      · simp only [Act.put, List.setIfInBounds_toArray, List.set_cons_zero, List.set_cons_succ, i64_w, i32_w]
                        rfl
                      refine one_ (i := 4) (N := some 43) #[true, true, true, true, true, false, false] rfl rfl (by kernel_rfl) (by decide) (fun K hK => ?_)
                      refine goes_ Try.func34 (by kernel_rfl) rfl #[.pointer (some ⟨g, 0, none⟩), .int .i64 2] (by rfl) rfl rfl (by (try simp only [List.map_toArray, List.map_cons, List.map_nil]); first | done | rfl | (simp only [List.length_drop, List.length_take]; rfl)) ?_
                      with_reducible refine (spec_l1Rd_pick.calls k1 g s0_0 x1001_1 2 t303 t304 w0 _ ?side1 ?side2 A97.out).mono ?_
                      (case side1 => repeat (first | (with_reducible first | exact HI0.out | apply IsS83.alloc | apply IsS83.drewN | apply IsS83.drew | apply IsS83.set_1 | refine IsS83.far ?_ NB0_277.out _ | refine IsS83.far ?_ NB0_287.out _) | exact HI0.out))
                      (case side2 => repeat (first | (with_reducible first | exact HB.out | apply qG | apply qD | apply qF | refine qC ?_ (IsS83.ge HI0.out) | refine qC ?_ GE277.out | refine qC ?_ GE287.out) | exact HB.out))
                      rintro e w102 ⟨rfl, hi, hb, hk⟩
                      refine ⟨_, rfl, ?_⟩
                      have n0_ := Aside0.mk (Kd.zU (Kd.Q_keep (IsS83.apartQ (show IsS83 w0 _ g s0_0 x1001_1 from by repeat (first | (with_reducible first | exact HI0.out | apply IsS83.alloc | apply IsS83.drewN | apply IsS83.drew | apply IsS83.set_1 | refine IsS83.far ?_ NB0_277.out _ | refine IsS83.far ?_ NB0_287.out _) | exact HI0.out)) (qw_ HO_288000.out) (by decide)) hk (fun _ h => h.2)) (fun _ h => h.1))
                      have n1_ := Aside0.mk (Kd.qS (Kd.zN (IsS83.apart (show IsS83 w0 _ g s0_0 x1001_1 from by repeat (first | (with_reducible first | exact HI0.out | apply IsS83.alloc | apply IsS83.drewN | apply IsS83.drew | apply IsS83.set_1 | refine IsS83.far ?_ NB0_277.out _ | refine IsS83.far ?_ NB0_287.out _) | exact HI0.out)) (rw_ HO_288001.out) (by decide)) hk (fun _ h => h.2)) (fun _ h => h.1))
                      have n2_ := Aside0.mk (KeepBut.blk hk (g' := gb277) (o := .cells #[.slice none 0 0, .slice none 0 0, .int .i64 0, .int .i64 0] 26 (0, 0)) (bw_ BK277.out) NB277_0.out (by simp))
                      have n3_ := Aside0.mk (KeepBut.blk hk (g' := gb287) (o := .cells #[.slice Ao91 t278.length co91, .slice Ao101 x288001_1.length co101, .int .i64 t284, .int .i64 t285] 26 (0, 0)) (bw_ BK287.out) NB287_0.out (by simp))
                      have n4_ := Aside0.mk (KeepBut.trans (by repeat (first | (with_reducible first | exact HK.out | apply KeepBut.set_ | apply qJ | apply qM | apply qK | refine qO ?_ GW277.out _ | refine qO ?_ GW287.out _) | exact HK.out)) hk (.inl rfl))
                      have n5_ := Aside0.mk (hb)
                      have n6_ := Aside0.mk (hi)
                      clear HO_288000
                      clear HO_288001
                      clear BK277
                      clear BK287
                      clear HK
                      clear HB
                      clear HI0
                      have HO_288000 := n0_
                      have HO_288001 := n1_
                      have BK277 := n2_
                      have BK287 := n3_
                      have HK := n4_
                      have HB := n5_
                      have HI0 := n6_
                      clear n0_ n1_ n2_ n3_ n4_ n5_ n6_
                      (try clear hb)
                      (try clear hb2)
                      (try clear hk)
                      (try clear hi)
                      refine hK.out _ _ ⟨(qA BK287.out 0).trans rfl, (qA BK287.out 1).trans rfl, (qA BK287.out 2).trans rfl, (qA BK287.out 3).trans rfl⟩ (fun hHeld => ?_)
                      clear hK K
                      refine norm_ (a' := ?_) ?_ ?_
                      rotate_left
                      · show Act.put _ (some 43) _ = _
                        simp only [Act.put, List.setIfInBounds_toArray, List.set_cons_zero, List.set_cons_succ, i64_w, i32_w]
                        rfl
                      refine pure_ (i := 5) (N := some 44) (v := ?_) (a' := ?_) #[true, true, true, true, true, true, false] rfl rfl (by kernel_rfl) (fun _ _ _ h => h) (Or.inl ⟨by rfl, ?_⟩) ?_ ?_
                      rotate_left
                      · intro w'
                        go_simp
                        with_reducible rfl
                      rotate_left
                      · simp only [Act.put, List.setIfInBounds_toArray, List.set_cons_zero, List.set_cons_succ, i64_w, i32_w]
                        rfl
                      refine pure_ (i := 6) (N := some 45) (v := ?_) (a' := ?_) #[true, true, true, true, true, true, true] rfl rfl (by kernel_rfl) (fun _ _ _ h => h) (Or.inl ⟨by rfl, ?_⟩) ?_ ?_
                      rotate_left
                      · intro w'
                        go_simp
                        with_reducible rfl
                      rotate_left
                      · simp only [Act.put, List.setIfInBounds_toArray, List.set_cons_zero, List.set_cons_succ, i64_w, i32_w]
                        rfl
                      refine done_ (by kernel_rfl) ?_
                      have hnb103 := NB287_277.out
                      have hnc103 := NB277_287.out
                      have hnb104 := NB287_0.out
                      have hnc104 := NB0_287.out
                      have hcz105_0 : w102.cell? ⟨gb287, 0, none⟩ = some (.slice Ao91 t278.length co91) := (qA BK287.out 0).trans rfl
                      have hcz105_1 : w102.cell? ⟨gb287, 1, none⟩ = some (.slice Ao101 x288001_1.length co101) := (qA BK287.out 1).trans rfl
                      have hcz105_2 : w102.cell? ⟨gb287, 2, none⟩ = some (.int .i64 t284) := (qA BK287.out 2).trans rfl
                      have hcz105_3 : w102.cell? ⟨gb287, 3, none⟩ = some (.int .i64 t285) := (qA BK287.out 3).trans rfl
                      have hfz105_0 := qB BK287.out 0
                      have hfz105_1 := qB BK287.out 1
                      have hfz105_2 := qB BK287.out 2
                      have hfz105_3 := qB BK287.out 3
                      try go_wp2_with (first | ((with_reducible refine xD (b := .append) (xs := #[.tmp 47, .tmp 49]) rfl ?_); at_builtin; refine Kd.R_append k70 w.heap.size rfl (.tmp 47) (.tmp 49) 24 70 (.agg #[(.int .i64 0), (.string ⟨#[]⟩)]) 24 rfl Try.underlying24 info70 rfl (by decide) (by omega) (.slice Ao101 x288001_1.length co101) x288001_1 (⟨5, (⟨#[119]⟩ : ByteArray)⟩ : S70) [.int .i64 5, .string (⟨#[119]⟩ : ByteArray)] (fun _ => True) (fun _ => False) rfl rfl ?aP (fun _ hk => hk.elim) ?aF ?aO (Below.refl _ _) ?aS ?aL ?_; (case aP => exact k70_mkM _ _ _ (⟨5, (⟨#[119]⟩ : ByteArray)⟩ : S70)); (case aF => exact (fun _ _ => trivial)); (case aO => exact (rw_ HO_288001.out)); (case aS => exact (zA (w := w) (g := g) (row := none) (by repeat (first | (with_reducible first | exact HK.out | apply KeepBut.set_ | apply qJ | apply qM | apply qK | refine qO ?_ GW277.out _ | refine qO ?_ GW287.out _) | exact HK.out)))); (case aL => have := LMc99.out; omega); intro v306 w106 ho hb hg hat; rw [← Ny305.out] at ho; have n0_ := Aside0.mk (Kd.Q_over' (qw_ HO_288000.out) (Kd.R_typed (rw_ HO_288001.out)) (by decide) hg); have n1_ := Aside0.mk (zV (g := gb277) (o := .cells #[.slice none 0 0, .slice none 0 0, .int .i64 0, .int .i64 0] 26 (0, 0)) (bw_ BK277.out) hg (Kd.R_ne HO_288001.out BK277.out (by decide))); have n2_ := Aside0.mk (zV (g := gb287) (o := .cells #[.slice Ao91 t278.length co91, .slice Ao101 x288001_1.length co101, .int .i64 t284, .int .i64 t285] 26 (0, 0)) (bw_ BK287.out) hg (Kd.R_ne HO_288001.out BK287.out (by decide))); have n3_ := Aside0.mk (IsS83.grown (by repeat (first | (with_reducible first | exact HI0.out | apply IsS83.alloc | apply IsS83.drewN | apply IsS83.drew | apply IsS83.set_1 | refine IsS83.far ?_ NB0_277.out _ | refine IsS83.far ?_ NB0_287.out _) | exact HI0.out)) hg (IsS83.own_ne HI0.out HO_288001.out (by decide))); have n4_ := Aside0.mk (below_weaken (by repeat (first | (with_reducible first | exact HB.out | apply qG | apply qD | apply qF | refine qC ?_ (IsS83.ge HI0.out) | refine qC ?_ GE277.out | refine qC ?_ GE287.out) | exact HB.out)) HL.out hb); have n5_ := Aside0.mk (KeepBut.trans (by repeat (first | (with_reducible first | exact HK.out | apply KeepBut.set_ | apply qJ | apply qM | apply qK | refine qO ?_ GW277.out _ | refine qO ?_ GW287.out _) | exact HK.out)) (KeepBut.of_grown hg g) (Kd.R_base2 HO_288001.out)); have n6_ := Aside0.mk (ho); clear HO_288000; clear BK277; clear BK287; clear HI0; clear HB; clear HK; clear HO_288001; have HO_288000 := n0_; have BK277 := n1_; have BK287 := n2_; have HI0 := n3_; have HB := n4_; have HK := n5_; have HO307 := n6_; clear n0_ n1_ n2_ n3_ n4_ n5_ n6_; clear ho hb hg hat; obtain ⟨Ao107, co107, eo107⟩ := Kd.zD HO307.out; subst eo107; have hcz108_0 : w106.cell? ⟨gb287, 0, none⟩ = some (.slice Ao91 t278.length co91) := (qA BK287.out 0).trans rfl; have hcz108_1 : w106.cell? ⟨gb287, 1, none⟩ = some (.slice Ao101 x288001_1.length co101) := (qA BK287.out 1).trans rfl; have hcz108_2 : w106.cell? ⟨gb287, 2, none⟩ = some (.int .i64 t284) := (qA BK287.out 2).trans rfl; have hcz108_3 : w106.cell? ⟨gb287, 3, none⟩ = some (.int .i64 t285) := (qA BK287.out 3).trans rfl; have hfz108_0 := qB BK287.out 0; have hfz108_1 := qB BK287.out 1; have hfz108_2 := qB BK287.out 2; have hfz108_3 := qB BK287.out 3))
                      go_roundg k1
                      case measure => have := HK1.out; omega
                      case rel => exact ⟨(t304), (y305), (.slice Ao107 y305.length co107), H', ⟨by have := HK1.out; omega⟩, ⟨by (with_reducible repeat (first | apply Kd.zS | apply Kd.zT | apply Kd.zP)); exact Kd.zU (Kd.Q_far (p := ⟨gb287, 1, none⟩) (Kd.zZ HO_288000.out BK287.out (by decide)) (fun _ hk => hk.2) (.slice Ao107 y305.length co107)) (fun _ hk => trivial)⟩, ⟨by (with_reducible repeat (first | apply Kd.qU | apply Kd.qT | apply Kd.qV)); exact Kd.qS (Kd.R_far (p := ⟨gb287, 1, none⟩) (Kd.qW HO307.out BK287.out (by decide)) (fun _ hk => hk.2) (.slice Ao107 y305.length co107)) (fun _ hk => trivial)⟩, ⟨by (with_reducible repeat (first | refine qH ?_ _ | refine qI ?_ | refine qE ?_ _)); refine qR ?_ NB277_287.out _; (with_reducible repeat (first | refine qH ?_ _ | refine qI ?_ | refine qE ?_ _)); exact BK277.out⟩, ⟨by (with_reducible repeat (first | refine qH ?_ _ | refine qI ?_ | refine qE ?_ _)); refine qN (cs := #[.slice Ao91 t278.length co91, .slice Ao101 x288001_1.length co101, .int .i64 t284, .int .i64 t285]) ?_ 1 _ rfl; (with_reducible repeat (first | refine qH ?_ _ | refine qI ?_ | refine qE ?_ _)); exact BK287.out⟩, ⟨by repeat (first | (with_reducible first | exact HI0.out | apply IsS83.alloc | apply IsS83.drewN | apply IsS83.drew | apply IsS83.set_1 | refine IsS83.far ?_ NB0_277.out _ | refine IsS83.far ?_ NB0_287.out _) | exact HI0.out)⟩, ⟨by repeat (first | (with_reducible first | exact HK.out | apply KeepBut.set_ | apply qJ | apply qM | apply qK | refine qO ?_ GW277.out _ | refine qO ?_ GW287.out _) | exact HK.out)⟩, ⟨by repeat (first | (with_reducible first | exact HB.out | apply qG | apply qD | apply qF | refine qC ?_ (IsS83.ge HI0.out) | refine qC ?_ GE277.out | refine qC ?_ GE287.out) | exact HB.out)⟩⟩
                    · rw [if_neg c99] at H
                      exact absurd H (by simp)
                  · rw [if_neg c98] at H
                    have c98b0 : decide ((x288001_1.length : Int) < (wrap64 (100 + t303))) = false := decide_eq_false c98
                    clear c98
                    simp only [Option.some.injEq, Prod.mk.injEq] at H
                    obtain ⟨rfl, rfl, rfl, rfl, rfl⟩ := H
                    try go_wp2
                    have n0_ := Aside0.mk (Kd.zP HO_288000.out)
                    have n1_ := Aside0.mk (Kd.qV HO_288001.out)
                    have n2_ := Aside0.mk (qI BK277.out)
                    have n3_ := Aside0.mk (qI BK287.out)
                    have n4_ := Aside0.mk (IsS83.drew HI0.out)
                    have n5_ := Aside0.mk (qM HK.out)
                    have n6_ := Aside0.mk (qF HB.out)
                    clear HO_288000
                    clear HO_288001
                    clear BK277
                    clear BK287
                    clear HI0
                    clear HK
                    clear HB
                    have HO_288000 := n0_
                    have HO_288001 := n1_
                    have BK277 := n2_
                    have BK287 := n3_
                    have HI0 := n4_
                    have HK := n5_
                    have HB := n6_
                    clear n0_ n1_ n2_ n3_ n4_ n5_ n6_
                    obtain ⟨Ao110, co110, eo110⟩ := Kd.zD HO_288001.out
                    (first | subst eo110 | (injection eo110 with f1_ f2_ f3_; have f4_ := f1_.symm; have f5_ := f3_.symm; clear f1_ f2_ f3_; subst f4_; subst f5_))
                    refine start_ (n := 7) (S := fun w' => w'.cell? ⟨gb287, 0, none⟩ = some (.slice Ao91 t278.length co91) ∧ w'.cell? ⟨gb287, 1, none⟩ = some (.slice Ao110 x288001_1.length co110) ∧ w'.cell? ⟨gb287, 2, none⟩ = some (.int .i64 t284) ∧ w'.cell? ⟨gb287, 3, none⟩ = some (.int .i64 t285)) (ds := []) #[false, false, false, false, false, false, false] (by kernel_rfl) rfl rfl ⟨(qA BK287.out 0).trans rfl, (qA BK287.out 1).trans rfl, (qA BK287.out 2).trans rfl, (qA BK287.out 3).trans rfl⟩ (fun hHeld => ?_)
                    generalize wr.drew = w109 at HO_288000 HO_288001 BK277 BK287 HI0 HK HB hHeld ⊢
                    refine pure_ (i := 0) (N := some 39) (v := ?_) (a' := ?_) #[true, false, false, false, false, false, false] rfl rfl (by kernel_rfl) (fun _ _ _ h => h) (Or.inl ⟨by rfl, ?_⟩) ?_ ?_
                    rotate_left
                    · intro w'
                      go_simp
                      with_reducible rfl
                    rotate_left
                    · simp only [Act.put, List.setIfInBounds_toArray, List.set_cons_zero, List.set_cons_succ, i64_w, i32_w]
                      rfl
                    refine pure_ (i := 3) (N := some 42) (v := ?_) (a' := ?_) #[true, false, false, true, false, false, false] rfl rfl (by kernel_rfl) (fun _ _ _ h => h) (Or.inl ⟨by rfl, ?_⟩) ?_ ?_
                    rotate_left
                    · intro w'
                      go_simp
                      with_reducible rfl
                    rotate_left
                    · simp only [Act.put, List.setIfInBounds_toArray, List.set_cons_zero, List.set_cons_succ, i64_w, i32_w]
                      rfl
                    refine take_ (i := 1) (N := some 40) (v := ?_) (a' := ?_) #[true, true, false, true, false, false, false] rfl rfl (by kernel_rfl) (fun _ _ _ h => h) (Or.inl ⟨by rfl, ?_⟩) hHeld ?_ ?_
                    rotate_left
                    · rintro w' ⟨s0, s1, s2, s3⟩
                      go_simp
                      with_reducible rfl
                    rotate_left
                    · simp only [Act.put, List.setIfInBounds_toArray, List.set_cons_zero, List.set_cons_succ, i64_w, i32_w]
                      rfl
                    refine pure_ (i := 2) (N := some 41) (v := ?_) (a' := ?_) #[true, true, true, true, false, false, false] rfl rfl (by kernel_rfl) (fun _ _ _ h => h) (Or.inl ⟨by rfl, ?_⟩) ?_ ?_
                    rotate_left
                    · intro w'
                      go_simp
                      with_reducible rfl
                    rotate_left
                    · simp only [Act.put, List.setIfInBounds_toArray, List.set_cons_zero, List.set_cons_succ, i64_w, i32_w]
                      rfl
                    refine one_ (i := 4) (N := some 43) #[true, true, true, true, true, false, false] rfl rfl (by kernel_rfl) (by decide) (fun K hK => ?_)
                    refine goes_ Try.func34 (by kernel_rfl) rfl #[.pointer (some ⟨g, 0, none⟩), .int .i64 2] (by rfl) rfl rfl (by (try simp only [List.map_toArray, List.map_cons, List.map_nil]); first | done | rfl | (simp only [List.length_drop, List.length_take]; rfl)) ?_
                    with_reducible refine (spec_l1Rd_pick.calls k1 g s0_0 x1001_1 2 t303 t304 w0 _ ?side1 ?side2 A97.out).mono ?_
                    (case side1 => repeat (first | (with_reducible first | exact HI0.out | apply IsS83.alloc | apply IsS83.drewN | apply IsS83.drew | apply IsS83.set_1 | refine IsS83.far ?_ NB0_277.out _ | refine IsS83.far ?_ NB0_287.out _) | exact HI0.out))
                    (case side2 => repeat (first | (with_reducible first | exact HB.out | apply qG | apply qD | apply qF | refine qC ?_ (IsS83.ge HI0.out) | refine qC ?_ GE277.out | refine qC ?_ GE287.out) | exact HB.out))
                    rintro e w111 ⟨rfl, hi, hb, hk⟩
                    refine ⟨_, rfl, ?_⟩
                    have n0_ := Aside0.mk (Kd.zU (Kd.Q_keep (IsS83.apartQ (show IsS83 w0 _ g s0_0 x1001_1 from by repeat (first | (with_reducible first | exact HI0.out | apply IsS83.alloc | apply IsS83.drewN | apply IsS83.drew | apply IsS83.set_1 | refine IsS83.far ?_ NB0_277.out _ | refine IsS83.far ?_ NB0_287.out _) | exact HI0.out)) (qw_ HO_288000.out) (by decide)) hk (fun _ h => h.2)) (fun _ h => h.1))
                    have n1_ := Aside0.mk (Kd.qS (Kd.zN (IsS83.apart (show IsS83 w0 _ g s0_0 x1001_1 from by repeat (first | (with_reducible first | exact HI0.out | apply IsS83.alloc | apply IsS83.drewN | apply IsS83.drew | apply IsS83.set_1 | refine IsS83.far ?_ NB0_277.out _ | refine IsS83.far ?_ NB0_287.out _) | exact HI0.out)) (rw_ HO_288001.out) (by decide)) hk (fun _ h => h.2)) (fun _ h => h.1))
                    have n2_ := Aside0.mk (KeepBut.blk hk (g' := gb277) (o := .cells #[.slice none 0 0, .slice none 0 0, .int .i64 0, .int .i64 0] 26 (0, 0)) (bw_ BK277.out) NB277_0.out (by simp))
                    have n3_ := Aside0.mk (KeepBut.blk hk (g' := gb287) (o := .cells #[.slice Ao91 t278.length co91, .slice Ao110 x288001_1.length co110, .int .i64 t284, .int .i64 t285] 26 (0, 0)) (bw_ BK287.out) NB287_0.out (by simp))
                    have n4_ := Aside0.mk (KeepBut.trans (by repeat (first | (with_reducible first | exact HK.out | apply KeepBut.set_ | apply qJ | apply qM | apply qK | refine qO ?_ GW277.out _ | refine qO ?_ GW287.out _) | exact HK.out)) hk (.inl rfl))
                    have n5_ := Aside0.mk (hb)
                    have n6_ := Aside0.mk (hi)
                    clear HO_288000
                    clear HO_288001
                    clear BK277
                    clear BK287
                    clear HK
                    clear HB
                    clear HI0
                    have HO_288000 := n0_
                    have HO_288001 := n1_
                    have BK277 := n2_
                    have BK287 := n3_
                    have HK := n4_
                    have HB := n5_
                    have HI0 := n6_
                    clear n0_ n1_ n2_ n3_ n4_ n5_ n6_
                    (try clear hb)
                    (try clear hb2)
                    (try clear hk)
                    (try clear hi)
                    refine hK.out _ _ ⟨(qA BK287.out 0).trans rfl, (qA BK287.out 1).trans rfl, (qA BK287.out 2).trans rfl, (qA BK287.out 3).trans rfl⟩ (fun hHeld => ?_)
                    clear hK K
                    refine norm_ (a' := ?_) ?_ ?_
                    rotate_left
                    · show Act.put _ (some 43) _ = _
                      simp only [Act.put, List.setIfInBounds_toArray, List.set_cons_zero, List.set_cons_succ, i64_w, i32_w]
                      rfl
                    refine pure_ (i := 5) (N := some 44) (v := ?_) (a' := ?_) #[true, true, true, true, true, true, false] rfl rfl (by kernel_rfl) (fun _ _ _ h => h) (Or.inl ⟨by rfl, ?_⟩) ?_ ?_
                    rotate_left
                    · intro w'
                      go_simp
                      with_reducible rfl
                    rotate_left
                    · simp only [Act.put, List.setIfInBounds_toArray, List.set_cons_zero, List.set_cons_succ, i64_w, i32_w]
                      rfl
                    refine pure_ (i := 6) (N := some 45) (v := ?_) (a' := ?_) #[true, true, true, true, true, true, true] rfl rfl (by kernel_rfl) (fun _ _ _ h => h) (Or.inl ⟨by rfl, ?_⟩) ?_ ?_
                    rotate_left
                    · intro w'
                      go_simp
                      with_reducible rfl
                    rotate_left
                    · simp only [Act.put, List.setIfInBounds_toArray, List.set_cons_zero, List.set_cons_succ, i64_w, i32_w]
                      rfl
                    refine done_ (by kernel_rfl) ?_
                    have hnb112 := NB287_277.out
                    have hnc112 := NB277_287.out
                    have hnb113 := NB287_0.out
                    have hnc113 := NB0_287.out
                    have hcz114_0 : w111.cell? ⟨gb287, 0, none⟩ = some (.slice Ao91 t278.length co91) := (qA BK287.out 0).trans rfl
                    have hcz114_1 : w111.cell? ⟨gb287, 1, none⟩ = some (.slice Ao110 x288001_1.length co110) := (qA BK287.out 1).trans rfl
                    have hcz114_2 : w111.cell? ⟨gb287, 2, none⟩ = some (.int .i64 t284) := (qA BK287.out 2).trans rfl
                    have hcz114_3 : w111.cell? ⟨gb287, 3, none⟩ = some (.int .i64 t285) := (qA BK287.out 3).trans rfl
                    have hfz114_0 := qB BK287.out 0
                    have hfz114_1 := qB BK287.out 1
                    have hfz114_2 := qB BK287.out 2
                    have hfz114_3 := qB BK287.out 3
                    have hnb115 := NB277_0.out
                    have hnc115 := NB0_277.out
                    have hcz116_0 : w111.cell? ⟨gb277, 0, none⟩ = some (.slice none 0 0) := (qA BK277.out 0).trans rfl
                    have hcz116_1 : w111.cell? ⟨gb277, 1, none⟩ = some (.slice none 0 0) := (qA BK277.out 1).trans rfl
                    have hcz116_2 : w111.cell? ⟨gb277, 2, none⟩ = some (.int .i64 0) := (qA BK277.out 2).trans rfl
                    have hcz116_3 : w111.cell? ⟨gb277, 3, none⟩ = some (.int .i64 0) := (qA BK277.out 3).trans rfl
                    have hfz116_0 := qB BK277.out 0
                    have hfz116_1 := qB BK277.out 1
                    have hfz116_2 := qB BK277.out 2
                    have hfz116_3 := qB BK277.out 3
                    try go_wp2
                    refine bodyPost_ret (results_cell_row rfl _ _ gb277 26 #[.slice Ao91 t278.length co91, .slice Ao110 x288001_1.length co110, .int .i64 t284, .int .i64 t285] (0, 0) _ rfl (by (with_reducible repeat (first | refine qH ?_ _ | refine qI ?_ | refine qE ?_ _)); refine qN (cs := #[.slice Ao91 t278.length co91, .slice Ao110 x288001_1.length co110, .int .i64 t284, .int .i64 0]) ?_ 3 _ rfl; (with_reducible repeat (first | refine qH ?_ _ | refine qI ?_ | refine qE ?_ _)); refine qN (cs := #[.slice Ao91 t278.length co91, .slice Ao110 x288001_1.length co110, .int .i64 0, .int .i64 0]) ?_ 2 _ rfl; (with_reducible repeat (first | refine qH ?_ _ | refine qI ?_ | refine qE ?_ _)); refine qN (cs := #[.slice Ao91 t278.length co91, .slice none 0 0, .int .i64 0, .int .i64 0]) ?_ 1 _ rfl; (with_reducible repeat (first | refine qH ?_ _ | refine qI ?_ | refine qE ?_ _)); refine qN (cs := #[.slice none 0 0, .slice none 0 0, .int .i64 0, .int .i64 0]) ?_ 0 _ rfl; (with_reducible repeat (first | refine qH ?_ _ | refine qI ?_ | refine qE ?_ _)); exact BK277.out) Try.underlying26 rfl (by kernel_rfl)) rfl ?_
                    exact ⟨_, _, by first | rfl | (simp [errW_none, errW_some] <;> rfl) | (simp [*, errW_none, errW_some] <;> rfl), by (with_reducible repeat (first | apply Kd.zS | apply Kd.zT | apply Kd.zP)); exact Kd.zU (Kd.Q_far (p := ⟨gb277, 3, none⟩) (Kd.Q_far (p := ⟨gb277, 2, none⟩) (Kd.Q_far (p := ⟨gb277, 1, none⟩) (Kd.Q_far (p := ⟨gb277, 0, none⟩) (Kd.zZ HO_288000.out BK277.out (by decide)) (fun _ hk => hk.2) (.slice Ao91 t278.length co91)) (fun _ hk => hk.2) (.slice Ao110 x288001_1.length co110)) (fun _ hk => hk.2) (.int .i64 t284)) (fun _ hk => hk.2) (.int .i64 t285)) (fun _ hk => trivial), by (with_reducible repeat (first | apply Kd.qU | apply Kd.qT | apply Kd.qV)); exact Kd.qS (Kd.R_far (p := ⟨gb277, 3, none⟩) (Kd.R_far (p := ⟨gb277, 2, none⟩) (Kd.R_far (p := ⟨gb277, 1, none⟩) (Kd.R_far (p := ⟨gb277, 0, none⟩) (Kd.qW HO_288001.out BK277.out (by decide)) (fun _ hk => hk.2) (.slice Ao91 t278.length co91)) (fun _ hk => hk.2) (.slice Ao110 x288001_1.length co110)) (fun _ hk => hk.2) (.int .i64 t284)) (fun _ hk => hk.2) (.int .i64 t285)) (fun _ hk => trivial), by repeat (first | (with_reducible first | exact HI0.out | apply IsS83.alloc | apply IsS83.drewN | apply IsS83.drew | apply IsS83.set_1 | refine IsS83.far ?_ NB0_277.out _ | refine IsS83.far ?_ NB0_287.out _) | exact HI0.out), by repeat (first | (with_reducible first | exact HB.out | apply qG | apply qD | apply qF | refine qC ?_ (IsS83.ge HI0.out) | refine qC ?_ GE277.out | refine qC ?_ GE287.out) | exact HB.out), by repeat (first | (with_reducible first | exact HK.out | apply KeepBut.set_ | apply qJ | apply qM | apply qK | refine qO ?_ GW277.out _ | refine qO ?_ GW287.out _) | exact HK.out)⟩
            · rw [if_neg c87] at H
              have c87b0 : (t288 == 5) = false := beq_eq_false_iff_ne.mpr c87
              have c87b1 : (t288 != 5) = true := bne_iff_ne.mpr c87
              simp only [Option.some.injEq, Prod.mk.injEq] at H
              obtain ⟨rfl, rfl, rfl, rfl, rfl⟩ := H
              go_enter Try.func33, Try.ntmps33
              go_wp2_with (first | ((with_reducible refine qZ (N := 2) rfl ?_); refine qY ?hg (N := 2) ?hd (cs := #[.slice none 0 0, .slice none 0 0, .int .i64 0, .int .i64 0]) (t := 26) ?hr ?_; (case hd => rfl); (case hg => rfl); (case hr => first | (go_simp; done) | (go_simp; rfl)); intro gb277 hg w117 hbox hb; have n0_ := Aside0.mk (IsS83.below (by repeat (first | (with_reducible first | exact HI0.out | apply IsS83.alloc | apply IsS83.drewN | apply IsS83.drew | apply IsS83.set_1) | exact HI0.out)) hb); have n1_ := Aside0.mk (KeepBut.trans (by repeat (first | (with_reducible first | exact HK.out | apply KeepBut.set_ | apply qJ | apply qM | apply qK) | exact HK.out)) (KeepBut.of_below hb g none) (.inl rfl)); have n2_ := Aside0.mk (qQ (by repeat (first | (with_reducible first | exact HB.out | apply qG | apply qD | apply qF | refine qC ?_ (IsS83.ge HI0.out)) | exact HB.out)) hb); have n3_ := Aside0.mk (hbox); have n4_ := Aside0.mk ((by rw [hg]; exact (zA (w := w) (g := g) (row := none) (by repeat (first | (with_reducible first | exact HK.out | apply KeepBut.set_ | apply qJ | apply qM | apply qK) | exact HK.out))) : w.heap.size ≤ gb277)); have n5_ := Aside0.mk ((Nat.le_trans HW0.out (by rw [hg]; exact (zA (w := w) (g := g) (row := none) (by repeat (first | (with_reducible first | exact HK.out | apply KeepBut.set_ | apply qJ | apply qM | apply qK) | exact HK.out))) : w.heap.size ≤ gb277) : w0.heap.size ≤ gb277)); have n6_ := Aside0.mk ((by rw [hg]; exact Nat.ne_of_lt (IsS83.lt (show IsS83 w0 _ g s0_0 s0_1 from by repeat (first | (with_reducible first | exact HI0.out | apply IsS83.alloc | apply IsS83.drewN | apply IsS83.drew | apply IsS83.set_1) | exact HI0.out))) : g ≠ gb277)); have n7_ := Aside0.mk ((by rw [hg]; exact Nat.ne_of_gt (IsS83.lt (show IsS83 w0 _ g s0_0 s0_1 from by repeat (first | (with_reducible first | exact HI0.out | apply IsS83.alloc | apply IsS83.drewN | apply IsS83.drew | apply IsS83.set_1) | exact HI0.out))) : gb277 ≠ g)); clear HI0; clear HK; clear HB; have HI0 := n0_; have HK := n1_; have HB := n2_; have BK277 := n3_; have GW277 := n4_; have GE277 := n5_; have NB0_277 := n6_; have NB277_0 := n7_; clear n0_ n1_ n2_ n3_ n4_ n5_ n6_ n7_; clear hb hbox hg) | ((with_reducible refine qX (f := 65) rfl ?_); refine zM (some 5) rfl rfl Try.func65 (by kernel_rfl) rfl #[.pointer (some ⟨g, 0, none⟩)] rfl (by (try simp only [List.map_toArray, List.map_cons, List.map_nil]); first | done | rfl | (simp only [List.length_drop, List.length_take]; rfl)) ?_; (with_reducible refine (spec_l15Disk.calls k g s0_0 s0_1 t278 t281 t284 t285 t286 w0 _ ?side1 ?side2 A2.out).mono ?_); (case side1 => repeat (first | (with_reducible first | exact HI0.out | apply IsS83.alloc | apply IsS83.drewN | apply IsS83.drew | apply IsS83.set_1 | refine IsS83.far ?_ NB0_277.out _) | exact HI0.out)); (case side2 => repeat (first | (with_reducible first | exact HB.out | apply qG | apply qD | apply qF | refine qC ?_ (IsS83.ge HI0.out) | refine qC ?_ GE277.out) | exact HB.out)); rintro e w118 ⟨v279, v282, rfl, ho0, ho1, hi, hb, hk⟩; refine ⟨_, rfl, ?_⟩; have n0_ := Aside0.mk (KeepBut.blk hk (g' := gb277) (o := .cells #[.slice none 0 0, .slice none 0 0, .int .i64 0, .int .i64 0] 26 (0, 0)) (bw_ BK277.out) NB277_0.out (by simp)); have n1_ := Aside0.mk (Kd.zJ ho0 (zA (w := w) (g := g) (row := none) (by repeat (first | (with_reducible first | exact HK.out | apply KeepBut.set_ | apply qJ | apply qM | apply qK | refine qO ?_ GW277.out _) | exact HK.out)))); have n2_ := Aside0.mk (Kd.zJ ho1 (zA (w := w) (g := g) (row := none) (by repeat (first | (with_reducible first | exact HK.out | apply KeepBut.set_ | apply qJ | apply qM | apply qK | refine qO ?_ GW277.out _) | exact HK.out)))); have n3_ := Aside0.mk (KeepBut.trans (by repeat (first | (with_reducible first | exact HK.out | apply KeepBut.set_ | apply qJ | apply qM | apply qK | refine qO ?_ GW277.out _) | exact HK.out)) hk (.inl rfl)); have n4_ := Aside0.mk (hb); have n5_ := Aside0.mk (hi); clear BK277; clear HK; clear HB; clear HI0; have BK277 := n0_; have HO280 := n1_; have HO283 := n2_; have HK := n3_; have HB := n4_; have HI0 := n5_; clear n0_ n1_ n2_ n3_ n4_ n5_; (try clear hb); (try clear hb2); (try clear hk); (try clear hi); (try clear ho0); (try clear ho1)) | ((with_reducible refine qZ (N := 3) rfl ?_); refine qY ?hg (N := 3) ?hd (cs := #[.slice none 0 0, .slice none 0 0, .int .i64 0, .int .i64 0]) (t := 26) ?hr ?_; (case hd => rfl); (case hg => rfl); (case hr => first | (go_simp; done) | (go_simp; rfl)); intro gb287 hg w119 hbox hb; have n0_ := Aside0.mk (Kd.zB (rw_ HO280.out) hb); have n1_ := Aside0.mk (Kd.zB (rw_ HO283.out) hb); have n2_ := Aside0.mk (IsS83.below (by repeat (first | (with_reducible first | exact HI0.out | apply IsS83.alloc | apply IsS83.drewN | apply IsS83.drew | apply IsS83.set_1 | refine IsS83.far ?_ NB0_277.out _) | exact HI0.out)) hb); have n3_ := Aside0.mk (qL (g := gb277) (o := .cells #[.slice none 0 0, .slice none 0 0, .int .i64 0, .int .i64 0] 26 (0, 0)) (bw_ BK277.out) hb); have n4_ := Aside0.mk (KeepBut.trans (by repeat (first | (with_reducible first | exact HK.out | apply KeepBut.set_ | apply qJ | apply qM | apply qK | refine qO ?_ GW277.out _) | exact HK.out)) (KeepBut.of_below hb g none) (.inl rfl)); have n5_ := Aside0.mk (qQ (by repeat (first | (with_reducible first | exact HB.out | apply qG | apply qD | apply qF | refine qC ?_ (IsS83.ge HI0.out) | refine qC ?_ GE277.out) | exact HB.out)) hb); have n6_ := Aside0.mk (hbox); have n7_ := Aside0.mk ((by rw [hg]; exact (zA (w := w) (g := g) (row := none) (by repeat (first | (with_reducible first | exact HK.out | apply KeepBut.set_ | apply qJ | apply qM | apply qK | refine qO ?_ GW277.out _) | exact HK.out))) : w.heap.size ≤ gb287)); have n8_ := Aside0.mk ((Nat.le_trans HW0.out (by rw [hg]; exact (zA (w := w) (g := g) (row := none) (by repeat (first | (with_reducible first | exact HK.out | apply KeepBut.set_ | apply qJ | apply qM | apply qK | refine qO ?_ GW277.out _) | exact HK.out))) : w.heap.size ≤ gb287) : w0.heap.size ≤ gb287)); have n9_ := Aside0.mk ((by rw [hg]; exact Nat.ne_of_lt (zE (g := gb277) (o := .cells #[.slice none 0 0, .slice none 0 0, .int .i64 0, .int .i64 0] 26 (0, 0)) (bw_ BK277.out)) : gb277 ≠ gb287)); have n10_ := Aside0.mk ((by rw [hg]; exact Nat.ne_of_gt (zE (g := gb277) (o := .cells #[.slice none 0 0, .slice none 0 0, .int .i64 0, .int .i64 0] 26 (0, 0)) (bw_ BK277.out)) : gb287 ≠ gb277)); have n11_ := Aside0.mk ((by rw [hg]; exact Nat.ne_of_lt (IsS83.lt (show IsS83 w0 _ g s0_0 t286 from by repeat (first | (with_reducible first | exact HI0.out | apply IsS83.alloc | apply IsS83.drewN | apply IsS83.drew | apply IsS83.set_1 | refine IsS83.far ?_ NB0_277.out _) | exact HI0.out))) : g ≠ gb287)); have n12_ := Aside0.mk ((by rw [hg]; exact Nat.ne_of_gt (IsS83.lt (show IsS83 w0 _ g s0_0 t286 from by repeat (first | (with_reducible first | exact HI0.out | apply IsS83.alloc | apply IsS83.drewN | apply IsS83.drew | apply IsS83.set_1 | refine IsS83.far ?_ NB0_277.out _) | exact HI0.out))) : gb287 ≠ g)); clear HO280; clear HO283; clear HI0; clear BK277; clear HK; clear HB; have HO280 := n0_; have HO283 := n1_; have HI0 := n2_; have BK277 := n3_; have HK := n4_; have HB := n5_; have BK287 := n6_; have GW287 := n7_; have GE287 := n8_; have NB277_287 := n9_; have NB287_277 := n10_; have NB0_287 := n11_; have NB287_0 := n12_; clear n0_ n1_ n2_ n3_ n4_ n5_ n6_ n7_ n8_ n9_ n10_ n11_ n12_; clear hb hbox hg; obtain ⟨Ao120, co120, eo120⟩ := Kd.zD HO280.out; subst eo120; have hnb121 := NB287_277.out; have hnc121 := NB277_287.out; have hnb122 := NB287_0.out; have hnc122 := NB0_287.out; have hcz123_0 : w119.cell? ⟨gb287, 0, none⟩ = some (.slice none 0 0) := (qA BK287.out 0).trans rfl; have hcz123_1 : w119.cell? ⟨gb287, 1, none⟩ = some (.slice none 0 0) := (qA BK287.out 1).trans rfl; have hcz123_2 : w119.cell? ⟨gb287, 2, none⟩ = some (.int .i64 0) := (qA BK287.out 2).trans rfl; have hcz123_3 : w119.cell? ⟨gb287, 3, none⟩ = some (.int .i64 0) := (qA BK287.out 3).trans rfl; have hfz123_0 := qB BK287.out 0; have hfz123_1 := qB BK287.out 1; have hfz123_2 := qB BK287.out 2; have hfz123_3 := qB BK287.out 3; obtain ⟨Ao124, co124, eo124⟩ := Kd.zD HO283.out; subst eo124) | ((with_reducible refine qX (f := 34) rfl ?_); refine zM (some 7) rfl rfl Try.func34 (by kernel_rfl) rfl #[.pointer (some ⟨g, 0, none⟩), .int .i64 24] rfl (by (try simp only [List.map_toArray, List.map_cons, List.map_nil]); first | done | rfl | (simp only [List.length_drop, List.length_take]; rfl)) ?_; (with_reducible refine (spec_l1Rd_pick.calls k g s0_0 t286 24 t288 t289 w0 _ ?side1 ?side2 A3.out).mono ?_); (case side1 => repeat (first | (with_reducible first | exact HI0.out | apply IsS83.alloc | apply IsS83.drewN | apply IsS83.drew | apply IsS83.set_1 | refine IsS83.far ?_ NB0_277.out _ | refine IsS83.far ?_ NB0_287.out _) | exact HI0.out)); (case side2 => repeat (first | (with_reducible first | exact HB.out | apply qG | apply qD | apply qF | refine qC ?_ (IsS83.ge HI0.out) | refine qC ?_ GE277.out | refine qC ?_ GE287.out) | exact HB.out)); rintro e w125 ⟨rfl, hi, hb, hk⟩; refine ⟨_, rfl, ?_⟩; have n0_ := Aside0.mk (KeepBut.blk hk (g' := gb277) (o := .cells #[.slice none 0 0, .slice none 0 0, .int .i64 0, .int .i64 0] 26 (0, 0)) (by (with_reducible repeat (first | refine qH ?_ _ | refine qI ?_ | refine qE ?_ _)); refine qR ?_ NB277_287.out _; (with_reducible repeat (first | refine qH ?_ _ | refine qI ?_ | refine qE ?_ _)); refine qR ?_ NB277_287.out _; (with_reducible repeat (first | refine qH ?_ _ | refine qI ?_ | refine qE ?_ _)); refine qR ?_ NB277_287.out _; (with_reducible repeat (first | refine qH ?_ _ | refine qI ?_ | refine qE ?_ _)); refine qR ?_ NB277_287.out _; (with_reducible repeat (first | refine qH ?_ _ | refine qI ?_ | refine qE ?_ _)); exact BK277.out) NB277_0.out (by simp)); have n1_ := Aside0.mk (Kd.qS (Kd.zN (IsS83.apart (show IsS83 w0 _ g s0_0 t286 from by repeat (first | (with_reducible first | exact HI0.out | apply IsS83.alloc | apply IsS83.drewN | apply IsS83.drew | apply IsS83.set_1 | refine IsS83.far ?_ NB0_277.out _ | refine IsS83.far ?_ NB0_287.out _) | exact HI0.out)) (by (with_reducible repeat (first | apply Kd.qU | apply Kd.qT | apply Kd.qV)); exact (Kd.qS (Kd.R_far (p := ⟨gb287, 3, none⟩) (Kd.R_far (p := ⟨gb287, 2, none⟩) (Kd.R_far (p := ⟨gb287, 1, none⟩) (Kd.R_far (p := ⟨gb287, 0, none⟩) (Kd.qW HO280.out BK287.out (by decide)) (fun _ hk => hk.2) (.slice Ao120 t278.length co120)) (fun _ hk => hk.2) (.slice Ao124 t281.length co124)) (fun _ hk => hk.2) (.int .i64 t284)) (fun _ hk => hk.2) (.int .i64 t285)) (fun _ h_ => h_.1))) (by decide)) hk (fun _ h => h.2)) (fun _ h => h.1)); have n2_ := Aside0.mk (Kd.qS (Kd.zN (IsS83.apart (show IsS83 w0 _ g s0_0 t286 from by repeat (first | (with_reducible first | exact HI0.out | apply IsS83.alloc | apply IsS83.drewN | apply IsS83.drew | apply IsS83.set_1 | refine IsS83.far ?_ NB0_277.out _ | refine IsS83.far ?_ NB0_287.out _) | exact HI0.out)) (by (with_reducible repeat (first | apply Kd.qU | apply Kd.qT | apply Kd.qV)); exact (Kd.qS (Kd.R_far (p := ⟨gb287, 3, none⟩) (Kd.R_far (p := ⟨gb287, 2, none⟩) (Kd.R_far (p := ⟨gb287, 1, none⟩) (Kd.R_far (p := ⟨gb287, 0, none⟩) (Kd.qW HO283.out BK287.out (by decide)) (fun _ hk => hk.2) (.slice Ao120 t278.length co120)) (fun _ hk => hk.2) (.slice Ao124 t281.length co124)) (fun _ hk => hk.2) (.int .i64 t284)) (fun _ hk => hk.2) (.int .i64 t285)) (fun _ h_ => h_.1))) (by decide)) hk (fun _ h => h.2)) (fun _ h => h.1)); have n3_ := Aside0.mk (KeepBut.blk hk (g' := gb287) (o := .cells #[.slice Ao120 t278.length co120, .slice Ao124 t281.length co124, .int .i64 t284, .int .i64 t285] 26 (0, 0)) (by (with_reducible repeat (first | refine qH ?_ _ | refine qI ?_ | refine qE ?_ _)); refine qN (cs := #[.slice Ao120 t278.length co120, .slice Ao124 t281.length co124, .int .i64 t284, .int .i64 0]) ?_ 3 _ rfl; (with_reducible repeat (first | refine qH ?_ _ | refine qI ?_ | refine qE ?_ _)); refine qN (cs := #[.slice Ao120 t278.length co120, .slice Ao124 t281.length co124, .int .i64 0, .int .i64 0]) ?_ 2 _ rfl; (with_reducible repeat (first | refine qH ?_ _ | refine qI ?_ | refine qE ?_ _)); refine qN (cs := #[.slice Ao120 t278.length co120, .slice none 0 0, .int .i64 0, .int .i64 0]) ?_ 1 _ rfl; (with_reducible repeat (first | refine qH ?_ _ | refine qI ?_ | refine qE ?_ _)); refine qN (cs := #[.slice none 0 0, .slice none 0 0, .int .i64 0, .int .i64 0]) ?_ 0 _ rfl; (with_reducible repeat (first | refine qH ?_ _ | refine qI ?_ | refine qE ?_ _)); exact BK287.out) NB287_0.out (by simp)); have n4_ := Aside0.mk (KeepBut.trans (by repeat (first | (with_reducible first | exact HK.out | apply KeepBut.set_ | apply qJ | apply qM | apply qK | refine qO ?_ GW277.out _ | refine qO ?_ GW287.out _) | exact HK.out)) hk (.inl rfl)); have n5_ := Aside0.mk (hb); have n6_ := Aside0.mk (hi); clear BK277; clear HO280; clear HO283; clear BK287; clear HK; clear HB; clear HI0; have BK277 := n0_; have HO280 := n1_; have HO283 := n2_; have BK287 := n3_; have HK := n4_; have HB := n5_; have HI0 := n6_; clear n0_ n1_ n2_ n3_ n4_ n5_ n6_; (try clear hb); (try clear hb2); (try clear hk); (try clear hi); have hcz126_0 : w125.cell? ⟨gb287, 0, none⟩ = some (.slice Ao120 t278.length co120) := (qA BK287.out 0).trans rfl; have hcz126_1 : w125.cell? ⟨gb287, 1, none⟩ = some (.slice Ao124 t281.length co124) := (qA BK287.out 1).trans rfl; have hcz126_2 : w125.cell? ⟨gb287, 2, none⟩ = some (.int .i64 t284) := (qA BK287.out 2).trans rfl; have hcz126_3 : w125.cell? ⟨gb287, 3, none⟩ = some (.int .i64 t285) := (qA BK287.out 3).trans rfl; have hfz126_0 := qB BK287.out 0; have hfz126_1 := qB BK287.out 1; have hfz126_2 := qB BK287.out 2; have hfz126_3 := qB BK287.out 3; have hnb127 := NB277_0.out; have hnc127 := NB0_277.out; have hcz128_0 : w125.cell? ⟨gb277, 0, none⟩ = some (.slice none 0 0) := (qA BK277.out 0).trans rfl; have hcz128_1 : w125.cell? ⟨gb277, 1, none⟩ = some (.slice none 0 0) := (qA BK277.out 1).trans rfl; have hcz128_2 : w125.cell? ⟨gb277, 2, none⟩ = some (.int .i64 0) := (qA BK277.out 2).trans rfl; have hcz128_3 : w125.cell? ⟨gb277, 3, none⟩ = some (.int .i64 0) := (qA BK277.out 3).trans rfl; have hfz128_0 := qB BK277.out 0; have hfz128_1 := qB BK277.out 1; have hfz128_2 := qB BK277.out 2; have hfz128_3 := qB BK277.out 3))
              refine bodyPost_ret (results_cell_row rfl _ _ gb277 26 #[.slice Ao120 t278.length co120, .slice Ao124 t281.length co124, .int .i64 t284, .int .i64 t285] (0, 0) _ rfl (by (with_reducible repeat (first | refine qH ?_ _ | refine qI ?_ | refine qE ?_ _)); refine qN (cs := #[.slice Ao120 t278.length co120, .slice Ao124 t281.length co124, .int .i64 t284, .int .i64 0]) ?_ 3 _ rfl; (with_reducible repeat (first | refine qH ?_ _ | refine qI ?_ | refine qE ?_ _)); refine qN (cs := #[.slice Ao120 t278.length co120, .slice Ao124 t281.length co124, .int .i64 0, .int .i64 0]) ?_ 2 _ rfl; (with_reducible repeat (first | refine qH ?_ _ | refine qI ?_ | refine qE ?_ _)); refine qN (cs := #[.slice Ao120 t278.length co120, .slice none 0 0, .int .i64 0, .int .i64 0]) ?_ 1 _ rfl; (with_reducible repeat (first | refine qH ?_ _ | refine qI ?_ | refine qE ?_ _)); refine qN (cs := #[.slice none 0 0, .slice none 0 0, .int .i64 0, .int .i64 0]) ?_ 0 _ rfl; (with_reducible repeat (first | refine qH ?_ _ | refine qI ?_ | refine qE ?_ _)); exact BK277.out) Try.underlying26 rfl (by kernel_rfl)) rfl ?_
              exact ⟨_, _, by first | rfl | (simp [errW_none, errW_some] <;> rfl) | (simp [*, errW_none, errW_some] <;> rfl), Kd.Q_of_R (by (with_reducible repeat (first | apply Kd.qU | apply Kd.qT | apply Kd.qV)); exact Kd.qS (Kd.R_far (p := ⟨gb277, 3, none⟩) (Kd.R_far (p := ⟨gb277, 2, none⟩) (Kd.R_far (p := ⟨gb277, 1, none⟩) (Kd.R_far (p := ⟨gb277, 0, none⟩) (Kd.qW HO280.out BK277.out (by decide)) (fun _ hk => hk.2) (.slice Ao120 t278.length co120)) (fun _ hk => hk.2) (.slice Ao124 t281.length co124)) (fun _ hk => hk.2) (.int .i64 t284)) (fun _ hk => hk.2) (.int .i64 t285)) (fun _ hk => trivial)), by (with_reducible repeat (first | apply Kd.qU | apply Kd.qT | apply Kd.qV)); exact Kd.qS (Kd.R_far (p := ⟨gb277, 3, none⟩) (Kd.R_far (p := ⟨gb277, 2, none⟩) (Kd.R_far (p := ⟨gb277, 1, none⟩) (Kd.R_far (p := ⟨gb277, 0, none⟩) (Kd.qW HO283.out BK277.out (by decide)) (fun _ hk => hk.2) (.slice Ao120 t278.length co120)) (fun _ hk => hk.2) (.slice Ao124 t281.length co124)) (fun _ hk => hk.2) (.int .i64 t284)) (fun _ hk => hk.2) (.int .i64 t285)) (fun _ hk => trivial), by repeat (first | (with_reducible first | exact HI0.out | apply IsS83.alloc | apply IsS83.drewN | apply IsS83.drew | apply IsS83.set_1 | refine IsS83.far ?_ NB0_277.out _ | refine IsS83.far ?_ NB0_287.out _) | exact HI0.out), by repeat (first | (with_reducible first | exact HB.out | apply qG | apply qD | apply qF | refine qC ?_ (IsS83.ge HI0.out) | refine qC ?_ GE277.out | refine qC ?_ GE287.out) | exact HB.out), by repeat (first | (with_reducible first | exact HK.out | apply KeepBut.set_ | apply qJ | apply qM | apply qK | refine qO ?_ GW277.out _ | refine qO ?_ GW287.out _) | exact HK.out)⟩

end Go.Proofs.Ytepihebkdnmppaa.Aj
