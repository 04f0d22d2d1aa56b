/- Walks of the seat's functions, written by a program of this session (xprint.py) with the kit's printer: each call comes to just what its Lean function says. -/
import Derived.Test.YtepihebkdnmppaaxAjAj0
import Derived.Test.YtepihebkdnmppaaxAjAj3
import Derived.Test.YtepihebkdnmppaaxAjAj4
import Derived.Test.YtepihebkdnmppaaxAjAj7
namespace Go.Proofs.Ytepihebkdnmppaa.Aj
open Go.RowKit Go.Proofs.YtepihebkdnmppaaV.PrintWords Go.Proofs.YtepihebkdnmppaaV.PrintLast Go.Proofs.YtepihebkdnmppaaV.PrintMore
attribute [local go_sem] xH min2_int max_two min_two xA xB max_four min_four   -- for this text's walks alone
attribute [local go_sem high] World.zO
set_option linter.unusedVariables false
set_option linter.unusedSimpArgs false

/-! ### spec_DrawDiskWrite: function 17 -/
def spec_DrawDiskWrite.f (k : Nat) (l0 : List Int) : Option (List ByteArray × (List (S70)) × Int × Int × Int × ByteArray) := (spec_l1Open.f l0).bind fun bt309 => ((spec_l15AnyDisk.f k bt309.1 bt309.2).bind fun bt312 => ((spec_l1Rd_pick.f k bt309.1 bt312.2.2.2.2 42).bind fun bt322 => ((spec_l1Rd_one.f k bt309.1 bt322.2 (([0, 1, 2, 22, 41, (-1), 42, bt322.1] : List Int))).bind fun bt327 => ((spec_l1Rd_pick.f k bt309.1 bt327.2 20).bind fun bt329 => (if bt329.1 = 0 then ((spec_l1Rd_pick.f k bt309.1 bt329.2 2).bind fun bt331 => ((spec_l1Many.f k (⟨#[116]⟩ : ByteArray) (wrap64 (1200 + bt331.1))).bind fun t333 => (some (bt312.1, bt312.2.1, bt312.2.2.1, bt312.2.2.2.1, bt327.1, t333)))) else ((spec_l15PageText.f k bt309.1 bt329.2).bind fun bt334 => (some (bt312.1, bt312.2.1, bt312.2.2.1, bt312.2.2.2.1, bt327.1, bt334.1))))))))
theorem spec_DrawDiskWrite.mono : ∀ a0 k, LeO (spec_DrawDiskWrite.f k a0) (spec_DrawDiskWrite.f (k + 1) a0) := by
  intro a0 k
  unfold spec_DrawDiskWrite.f
  repeat' first
      | (with_reducible exact spec_l15AnyDisk.mono _ _ _)
      | (with_reducible exact spec_l15PageText.mono _ _ _)
      | (with_reducible exact spec_l1Many.mono _ _ _)
      | (with_reducible exact spec_l1Rd_one.mono _ _ _ _)
      | (with_reducible exact spec_l1Rd_pick.mono _ _ _ _)
      | (with_reducible exact LeO.refl _)
      | (with_reducible exact LeO.none _)
      | (with_reducible refine LeO.ite ?_ ?_)
      | (with_reducible refine LeO.bind ?_ (fun _ => ?_))
      | exact spec_l15AnyDisk.mono _ _ _
      | exact spec_l15PageText.mono _ _ _
      | exact spec_l1Many.mono _ _ _
      | exact spec_l1Rd_one.mono _ _ _ _
      | exact spec_l1Rd_pick.mono _ _ _ _
      | exact LeO.none _
      | refine LeO.ite ?_ ?_
      | refine LeO.bind ?_ (fun _ => ?_)
def spec_DrawDiskWrite.T5 : Bool × List (List Nat × List Nat) := (true, [([], []), ([], []), ([], []), ([2], [2]), ([3], [3]), ([4, 3], [4]), ([0, 5, 0], [0]), ([1, 6, 0, 1, 6], [1]), ([5, 7, 0, 1, 2, 3, 4, 5, 6, 7], [5])])
def spec_DrawDiskWrite.B5 : List Nat := [0, 0, 0, 4, 12, 28, 61, 127, 255]
theorem spec_DrawDiskWrite.tab5 : rtab .any (opsOf Try.f17 5) = spec_DrawDiskWrite.T5 := by kernel_rfl
theorem spec_DrawDiskWrite.bits5 : waitsOk spec_DrawDiskWrite.T5.2 spec_DrawDiskWrite.B5 = true := by kernel_rfl
set_option maxHeartbeats 8000000 in
set_option maxRecDepth 100000 in
theorem spec_DrawDiskWrite.calls (k : Nat) (A0 : Option Addr) (c0 : Nat) (l0 : List Int) (r1 : List ByteArray) (r2 : List (S70)) (r3 : Int) (r4 : Int) (r5 : Int) (r6 : ByteArray) (w : World) (hr0 : Kd.C (Kd.int .u8) w A0 l0.length l0) (hc0 : l0.length ≤ c0) (h : spec_DrawDiskWrite.f k l0 = some (r1, r2, r3, r4, r5, r6)) :
    Calls Try.prog 17 #[.slice A0 l0.length c0] w fun e w' => ∃ v0_ v1_ : Value, e = .returned (.tuple #[.agg #[v0_, v1_, .int .i64 r3, .int .i64 r4], .int .i64 r5, .string r6]) ∧ Kd.Q Kd.string 9 w' w.heap.size (fun _ => True) v0_ r1 ∧ Kd.R k70 70 w' w.heap.size (fun _ => True) v1_ r2 ∧ Below w.heap.size w w' := by
  have hu26 := Try.underlying26
  have HR0 := Aside0.mk hr0
  have HC0 := Aside0.mk hc0
  clear hr0 hc0
  have HB := Aside0.mk (Below.refl w.heap.size w)
  have H : ((spec_l1Open.f l0).bind fun bt309 => ((spec_l15AnyDisk.f k bt309.1 bt309.2).bind fun bt312 => ((spec_l1Rd_pick.f k bt309.1 bt312.2.2.2.2 42).bind fun bt322 => ((spec_l1Rd_one.f k bt309.1 bt322.2 (([0, 1, 2, 22, 41, (-1), 42, bt322.1] : List Int))).bind fun bt327 => ((spec_l1Rd_pick.f k bt309.1 bt327.2 20).bind fun bt329 => (if bt329.1 = 0 then ((spec_l1Rd_pick.f k bt309.1 bt329.2 2).bind fun bt331 => ((spec_l1Many.f k (⟨#[116]⟩ : ByteArray) (wrap64 (1200 + bt331.1))).bind fun t333 => (some (bt312.1, bt312.2.1, bt312.2.2.1, bt312.2.2.2.1, bt327.1, t333)))) else ((spec_l15PageText.f k bt309.1 bt329.2).bind fun bt334 => (some (bt312.1, bt312.2.1, bt312.2.2.1, bt312.2.2.2.1, bt327.1, bt334.1))))))))) = some (r1, r2, r3, r4, r5, r6) := h
  clear h
  replace H := Option.bind_eq_some_iff.mp H
  obtain ⟨⟨t309, t310⟩, A20, H⟩ := H
  replace H : ((spec_l15AnyDisk.f k t309 t310).bind fun bt312 => ((spec_l1Rd_pick.f k t309 bt312.2.2.2.2 42).bind fun bt322 => ((spec_l1Rd_one.f k t309 bt322.2 (([0, 1, 2, 22, 41, (-1), 42, bt322.1] : List Int))).bind fun bt327 => ((spec_l1Rd_pick.f k t309 bt327.2 20).bind fun bt329 => (if bt329.1 = 0 then ((spec_l1Rd_pick.f k t309 bt329.2 2).bind fun bt331 => ((spec_l1Many.f k (⟨#[116]⟩ : ByteArray) (wrap64 (1200 + bt331.1))).bind fun t333 => (some (bt312.1, bt312.2.1, bt312.2.2.1, bt312.2.2.2.1, bt327.1, t333)))) else ((spec_l15PageText.f k t309 bt329.2).bind fun bt334 => (some (bt312.1, bt312.2.1, bt312.2.2.1, bt312.2.2.2.1, bt327.1, bt334.1)))))))) = some (r1, r2, r3, r4, r5, r6) := H
  have A2 := Aside0.mk A20
  clear A20
  replace H := Option.bind_eq_some_iff.mp H
  obtain ⟨⟨t312, t315, t318, t319, t320⟩, A30, H⟩ := H
  replace H : ((spec_l1Rd_pick.f k t309 t320 42).bind fun bt322 => ((spec_l1Rd_one.f k t309 bt322.2 (([0, 1, 2, 22, 41, (-1), 42, bt322.1] : List Int))).bind fun bt327 => ((spec_l1Rd_pick.f k t309 bt327.2 20).bind fun bt329 => (if bt329.1 = 0 then ((spec_l1Rd_pick.f k t309 bt329.2 2).bind fun bt331 => ((spec_l1Many.f k (⟨#[116]⟩ : ByteArray) (wrap64 (1200 + bt331.1))).bind fun t333 => (some (t312, t315, t318, t319, bt327.1, t333)))) else ((spec_l15PageText.f k t309 bt329.2).bind fun bt334 => (some (t312, t315, t318, t319, bt327.1, bt334.1))))))) = some (r1, r2, r3, r4, r5, r6) := H
  have A3 := Aside0.mk A30
  clear A30
  replace H := Option.bind_eq_some_iff.mp H
  obtain ⟨⟨t322, t323⟩, A40, H⟩ := H
  replace H : ((spec_l1Rd_one.f k t309 t323 (([0, 1, 2, 22, 41, (-1), 42, t322] : List Int))).bind fun bt327 => ((spec_l1Rd_pick.f k t309 bt327.2 20).bind fun bt329 => (if bt329.1 = 0 then ((spec_l1Rd_pick.f k t309 bt329.2 2).bind fun bt331 => ((spec_l1Many.f k (⟨#[116]⟩ : ByteArray) (wrap64 (1200 + bt331.1))).bind fun t333 => (some (t312, t315, t318, t319, bt327.1, t333)))) else ((spec_l15PageText.f k t309 bt329.2).bind fun bt334 => (some (t312, t315, t318, t319, bt327.1, bt334.1)))))) = some (r1, r2, r3, r4, r5, r6) := H
  have A4 := Aside0.mk A40
  clear A40
  obtain ⟨y324, hy324⟩ : ∃ y_ : List Int, y_ = (([0, 1, 2, 22, 41, (-1), 42, t322] : List Int)) := ⟨_, rfl⟩
  replace H : ((spec_l1Rd_one.f k t309 t323 y324).bind fun bt327 => ((spec_l1Rd_pick.f k t309 bt327.2 20).bind fun bt329 => (if bt329.1 = 0 then ((spec_l1Rd_pick.f k t309 bt329.2 2).bind fun bt331 => ((spec_l1Many.f k (⟨#[116]⟩ : ByteArray) (wrap64 (1200 + bt331.1))).bind fun t333 => (some (t312, t315, t318, t319, bt327.1, t333)))) else ((spec_l15PageText.f k t309 bt329.2).bind fun bt334 => (some (t312, t315, t318, t319, bt327.1, bt334.1)))))) = some (r1, r2, r3, r4, r5, r6) := by first | (rw [hy324]; with_reducible exact H) | (have H2_ := (Option.bind_some _ _).symm.trans H; rw [hy324]; with_reducible exact H2_) | (have H2_ := (Option.bind_some _ _).symm.trans H; with_reducible exact H2_) | with_reducible exact H | (rw [hy324]; exact H) | exact H
  have Ny324 := Aside0.mk hy324
  clear hy324
  replace H := Option.bind_eq_some_iff.mp H
  obtain ⟨⟨t327, t328⟩, A50, H⟩ := H
  replace H : ((spec_l1Rd_pick.f k t309 t328 20).bind fun bt329 => (if bt329.1 = 0 then ((spec_l1Rd_pick.f k t309 bt329.2 2).bind fun bt331 => ((spec_l1Many.f k (⟨#[116]⟩ : ByteArray) (wrap64 (1200 + bt331.1))).bind fun t333 => (some (t312, t315, t318, t319, t327, t333)))) else ((spec_l15PageText.f k t309 bt329.2).bind fun bt334 => (some (t312, t315, t318, t319, t327, bt334.1))))) = some (r1, r2, r3, r4, r5, r6) := H
  have A5 := Aside0.mk A50
  clear A50
  replace H := Option.bind_eq_some_iff.mp H
  obtain ⟨⟨t329, t330⟩, A60, H⟩ := H
  replace H : (if t329 = 0 then ((spec_l1Rd_pick.f k t309 t330 2).bind fun bt331 => ((spec_l1Many.f k (⟨#[116]⟩ : ByteArray) (wrap64 (1200 + bt331.1))).bind fun t333 => (some (t312, t315, t318, t319, t327, t333)))) else ((spec_l15PageText.f k t309 t330).bind fun bt334 => (some (t312, t315, t318, t319, t327, bt334.1)))) = some (r1, r2, r3, r4, r5, r6) := H
  have A6 := Aside0.mk A60
  clear A60
  by_cases c7 : t329 = 0
  · rw [if_pos c7] at H
    have c7b0 : (t329 == 0) = true := beq_iff_eq.mpr c7
    have c7b1 : (t329 != 0) = false := bne_eq_false_iff_eq.mpr c7
    clear c7
    replace H := Option.bind_eq_some_iff.mp H
    obtain ⟨⟨t331, t332⟩, A80, H⟩ := H
    replace H : ((spec_l1Many.f k (⟨#[116]⟩ : ByteArray) (wrap64 (1200 + t331))).bind fun t333 => (some (t312, t315, t318, t319, t327, t333))) = some (r1, r2, r3, r4, r5, r6) := H
    have A8 := Aside0.mk A80
    clear A80
    replace H := Option.bind_eq_some_iff.mp H
    obtain ⟨t333, A90, H⟩ := H
    replace H : (some (t312, t315, t318, t319, t327, t333)) = some (r1, r2, r3, r4, r5, r6) := H
    have A9 := Aside0.mk A90
    clear A90
    simp only [Option.some.injEq, Prod.mk.injEq] at H
    obtain ⟨rfl, rfl, rfl, rfl, rfl, rfl⟩ := H
    go_enter Try.func17, Try.ntmps17
    try go_wp2_with (first | ((with_reducible refine qZ (N := 2) rfl ?_); refine qY ?hg (N := 2) ?hd (cs := #[.slice none 0 0, .slice none 0 0, .int .i64 0, .int .i64 0]) (t := 26) ?hr ?_; (case hd => rfl); (case hg => rfl); (case hr => first | (go_simp; done) | (go_simp; rfl)); intro gb308 hg w10 hbox hb; have n0_ := Aside0.mk (qQ (by repeat (first | (with_reducible first | exact HB.out | apply qG | apply qD | apply qF) | exact HB.out)) hb); have n1_ := Aside0.mk (hbox); have n2_ := Aside0.mk ((by rw [hg]; exact (qP (by repeat (first | (with_reducible first | exact HB.out | apply qG | apply qD | apply qF) | exact HB.out))) : w.heap.size ≤ gb308)); have n3_ := Aside0.mk ((by rw [hg]; exact (qP (by repeat (first | (with_reducible first | exact HB.out | apply qG | apply qD | apply qF) | exact HB.out))) : w.heap.size ≤ gb308)); clear HB; have HB := n0_; have BK308 := n1_; have GW308 := n2_; have GE308 := n3_; clear n0_ n1_ n2_ n3_; clear hb hbox hg) | ((with_reducible refine qX (f := 32) rfl ?_); refine zM (some 9) rfl rfl Try.func32 (by kernel_rfl) rfl #[.slice A0 l0.length c0] rfl (by (try simp only [List.map_toArray, List.map_cons, List.map_nil]); first | done | rfl | (simp only [List.length_drop, List.length_take]; rfl)) ?_; (with_reducible refine (spec_l1Open.calls _ _ l0 t309 t310 w _ ?side1 ?side2 ?side3 A2.out).mono ?_); (case side1 => repeat (first | (with_reducible first | exact HB.out | apply qG | apply qD | apply qF | refine qC ?_ GE308.out) | exact HB.out)); (case side2 => exact HR0.out); (case side3 => exact HC0.out); rintro e w11 ⟨g311, rfl, hi, hb, hb2⟩; refine ⟨_, rfl, ?_⟩; have n0_ := Aside0.mk (qL (g := gb308) (o := .cells #[.slice none 0 0, .slice none 0 0, .int .i64 0, .int .i64 0] 26 (0, 0)) (bw_ BK308.out) hb2); have n1_ := Aside0.mk (hb); have n2_ := Aside0.mk (hi); have n3_ := Aside0.mk (IsS83.ne_blk hi (qL (g := gb308) (o := .cells #[.slice none 0 0, .slice none 0 0, .int .i64 0, .int .i64 0] 26 (0, 0)) (bw_ BK308.out) hb2) (by decide)); have n4_ := Aside0.mk (Ne.symm (IsS83.ne_blk hi (qL (g := gb308) (o := .cells #[.slice none 0 0, .slice none 0 0, .int .i64 0, .int .i64 0] 26 (0, 0)) (bw_ BK308.out) hb2) (by decide))); clear BK308; clear HB; have BK308 := n0_; have HB := n1_; have HI311 := n2_; have NB311_308 := n3_; have NB308_311 := n4_; clear n0_ n1_ n2_ n3_ n4_; (try clear hb); (try clear hb2); (try clear hk); (try clear hi)) | ((with_reducible refine qX (f := 33) rfl ?_); refine zM (some 11) rfl rfl Try.func33 (by kernel_rfl) rfl #[.pointer (some ⟨g311, 0, none⟩)] rfl (by (try simp only [List.map_toArray, List.map_cons, List.map_nil]); first | done | rfl | (simp only [List.length_drop, List.length_take]; rfl)) ?_; (with_reducible refine (spec_l15AnyDisk.calls k g311 t309 t310 t312 t315 t318 t319 t320 w _ ?side1 ?side2 A3.out).mono ?_); (case side1 => repeat (first | (with_reducible first | exact HI311.out | apply IsS83.alloc | apply IsS83.drewN | apply IsS83.drew | apply IsS83.set_1 | refine IsS83.far ?_ NB311_308.out _) | exact HI311.out)); (case side2 => repeat (first | (with_reducible first | exact HB.out | apply qG | apply qD | apply qF | refine qC ?_ (IsS83.ge HI311.out) | refine qC ?_ GE308.out) | exact HB.out)); rintro e w12 ⟨v313, v316, rfl, ho0, ho1, hi, hb, hk⟩; refine ⟨_, rfl, ?_⟩; have n0_ := Aside0.mk (KeepBut.blk hk (g' := gb308) (o := .cells #[.slice none 0 0, .slice none 0 0, .int .i64 0, .int .i64 0] 26 (0, 0)) (bw_ BK308.out) NB308_311.out (by simp)); have n1_ := Aside0.mk (Kd.Q_lower ho0 (qP (by repeat (first | (with_reducible first | exact HB.out | apply qG | apply qD | apply qF | refine qC ?_ (IsS83.ge HI311.out) | refine qC ?_ GE308.out) | exact HB.out)))); have n2_ := Aside0.mk (Kd.zJ ho1 (qP (by repeat (first | (with_reducible first | exact HB.out | apply qG | apply qD | apply qF | refine qC ?_ (IsS83.ge HI311.out) | refine qC ?_ GE308.out) | exact HB.out)))); have n3_ := Aside0.mk (hb); have n4_ := Aside0.mk (hi); clear BK308; clear HB; clear HI311; have BK308 := n0_; have HO314 := n1_; have HO317 := n2_; have HB := n3_; have HI311 := n4_; clear n0_ n1_ n2_ n3_ n4_; (try clear hb); (try clear hb2); (try clear hk); (try clear hi); (try clear ho0); (try clear ho1)) | ((with_reducible refine qZ (N := 6) rfl ?_); refine qY ?hg (N := 6) ?hd (cs := #[.slice none 0 0, .slice none 0 0, .int .i64 0, .int .i64 0]) (t := 26) ?hr ?_; (case hd => rfl); (case hg => rfl); (case hr => first | (go_simp; done) | (go_simp; rfl)); intro gb321 hg w13 hbox hb; have n0_ := Aside0.mk (Kd.zR (qw_ HO314.out) hb); have n1_ := Aside0.mk (Kd.zB (rw_ HO317.out) hb); have n2_ := Aside0.mk (qL (g := gb308) (o := .cells #[.slice none 0 0, .slice none 0 0, .int .i64 0, .int .i64 0] 26 (0, 0)) (bw_ BK308.out) hb); have n3_ := Aside0.mk (IsS83.below (by repeat (first | (with_reducible first | exact HI311.out | apply IsS83.alloc | apply IsS83.drewN | apply IsS83.drew | apply IsS83.set_1 | refine IsS83.far ?_ NB311_308.out _) | exact HI311.out)) hb); have n4_ := Aside0.mk (qQ (by repeat (first | (with_reducible first | exact HB.out | apply qG | apply qD | apply qF | refine qC ?_ (IsS83.ge HI311.out) | refine qC ?_ GE308.out) | exact HB.out)) hb); have n5_ := Aside0.mk (hbox); have n6_ := Aside0.mk ((by rw [hg]; exact (qP (by repeat (first | (with_reducible first | exact HB.out | apply qG | apply qD | apply qF | refine qC ?_ (IsS83.ge HI311.out) | refine qC ?_ GE308.out) | exact HB.out))) : w.heap.size ≤ gb321)); have n7_ := Aside0.mk ((by rw [hg]; exact (qP (by repeat (first | (with_reducible first | exact HB.out | apply qG | apply qD | apply qF | refine qC ?_ (IsS83.ge HI311.out) | refine qC ?_ GE308.out) | exact HB.out))) : w.heap.size ≤ gb321)); have n8_ := Aside0.mk ((by rw [hg]; exact Nat.ne_of_lt (zE (g := gb308) (o := .cells #[.slice none 0 0, .slice none 0 0, .int .i64 0, .int .i64 0] 26 (0, 0)) (bw_ BK308.out)) : gb308 ≠ gb321)); have n9_ := Aside0.mk ((by rw [hg]; exact Nat.ne_of_gt (zE (g := gb308) (o := .cells #[.slice none 0 0, .slice none 0 0, .int .i64 0, .int .i64 0] 26 (0, 0)) (bw_ BK308.out)) : gb321 ≠ gb308)); have n10_ := Aside0.mk ((by rw [hg]; exact Nat.ne_of_lt (IsS83.lt (show IsS83 w _ g311 t309 t320 from by repeat (first | (with_reducible first | exact HI311.out | apply IsS83.alloc | apply IsS83.drewN | apply IsS83.drew | apply IsS83.set_1 | refine IsS83.far ?_ NB311_308.out _) | exact HI311.out))) : g311 ≠ gb321)); have n11_ := Aside0.mk ((by rw [hg]; exact Nat.ne_of_gt (IsS83.lt (show IsS83 w _ g311 t309 t320 from by repeat (first | (with_reducible first | exact HI311.out | apply IsS83.alloc | apply IsS83.drewN | apply IsS83.drew | apply IsS83.set_1 | refine IsS83.far ?_ NB311_308.out _) | exact HI311.out))) : gb321 ≠ g311)); clear HO314; clear HO317; clear BK308; clear HI311; clear HB; have HO314 := n0_; have HO317 := n1_; have BK308 := n2_; have HI311 := n3_; have HB := n4_; have BK321 := n5_; have GW321 := n6_; have GE321 := n7_; have NB308_321 := n8_; have NB321_308 := n9_; have NB311_321 := n10_; have NB321_311 := n11_; clear n0_ n1_ n2_ n3_ n4_ n5_ n6_ n7_ n8_ n9_ n10_ n11_; clear hb hbox hg; obtain ⟨Ao14, co14, eo14, _⟩ := Kd.Q_slice HO314.out; subst eo14; have hnb15 := NB321_308.out; have hnc15 := NB308_321.out; have hnb16 := NB321_311.out; have hnc16 := NB311_321.out; have hcz17_0 : w13.cell? ⟨gb321, 0, none⟩ = some (.slice none 0 0) := (qA BK321.out 0).trans rfl; have hcz17_1 : w13.cell? ⟨gb321, 1, none⟩ = some (.slice none 0 0) := (qA BK321.out 1).trans rfl; have hcz17_2 : w13.cell? ⟨gb321, 2, none⟩ = some (.int .i64 0) := (qA BK321.out 2).trans rfl; have hcz17_3 : w13.cell? ⟨gb321, 3, none⟩ = some (.int .i64 0) := (qA BK321.out 3).trans rfl; have hfz17_0 := qB BK321.out 0; have hfz17_1 := qB BK321.out 1; have hfz17_2 := qB BK321.out 2; have hfz17_3 := qB BK321.out 3; obtain ⟨Ao18, co18, eo18⟩ := Kd.zD HO317.out; subst eo18) | ((with_reducible refine qX (f := 34) rfl ?_); refine zM (some 14) rfl rfl Try.func34 (by kernel_rfl) rfl #[.pointer (some ⟨g311, 0, none⟩), .int .i64 42] rfl (by (try simp only [List.map_toArray, List.map_cons, List.map_nil]); first | done | rfl | (simp only [List.length_drop, List.length_take]; rfl)) ?_; (with_reducible refine (spec_l1Rd_pick.calls k g311 t309 t320 42 t322 t323 w _ ?side1 ?side2 A4.out).mono ?_); (case side1 => repeat (first | (with_reducible first | exact HI311.out | apply IsS83.alloc | apply IsS83.drewN | apply IsS83.drew | apply IsS83.set_1 | refine IsS83.far ?_ NB311_308.out _ | refine IsS83.far ?_ NB311_321.out _) | exact HI311.out)); (case side2 => repeat (first | (with_reducible first | exact HB.out | apply qG | apply qD | apply qF | refine qC ?_ (IsS83.ge HI311.out) | refine qC ?_ GE308.out | refine qC ?_ GE321.out) | exact HB.out)); rintro e w19 ⟨rfl, hi, hb, hk⟩; refine ⟨_, rfl, ?_⟩; have n0_ := Aside0.mk (KeepBut.blk hk (g' := gb308) (o := .cells #[.slice none 0 0, .slice none 0 0, .int .i64 0, .int .i64 0] 26 (0, 0)) (by (with_reducible repeat (first | refine qH ?_ _ | refine qI ?_ | refine qE ?_ _)); refine qR ?_ NB308_321.out _; (with_reducible repeat (first | refine qH ?_ _ | refine qI ?_ | refine qE ?_ _)); refine qR ?_ NB308_321.out _; (with_reducible repeat (first | refine qH ?_ _ | refine qI ?_ | refine qE ?_ _)); refine qR ?_ NB308_321.out _; (with_reducible repeat (first | refine qH ?_ _ | refine qI ?_ | refine qE ?_ _)); refine qR ?_ NB308_321.out _; (with_reducible repeat (first | refine qH ?_ _ | refine qI ?_ | refine qE ?_ _)); exact BK308.out) NB308_311.out (by simp)); have n1_ := Aside0.mk (Kd.zU (Kd.Q_keep (IsS83.apartQ (show IsS83 w _ g311 t309 t320 from by repeat (first | (with_reducible first | exact HI311.out | apply IsS83.alloc | apply IsS83.drewN | apply IsS83.drew | apply IsS83.set_1 | refine IsS83.far ?_ NB311_308.out _ | refine IsS83.far ?_ NB311_321.out _) | exact HI311.out)) (by (with_reducible repeat (first | apply Kd.zS | apply Kd.zT | apply Kd.zP)); exact (Kd.zU (Kd.Q_far (p := ⟨gb321, 3, none⟩) (Kd.Q_far (p := ⟨gb321, 2, none⟩) (Kd.Q_far (p := ⟨gb321, 1, none⟩) (Kd.Q_far (p := ⟨gb321, 0, none⟩) (Kd.zZ HO314.out BK321.out (by decide)) (fun _ hk => hk.2) (.slice Ao14 t312.length co14)) (fun _ hk => hk.2) (.slice Ao18 t315.length co18)) (fun _ hk => hk.2) (.int .i64 t318)) (fun _ hk => hk.2) (.int .i64 t319)) (fun _ h_ => h_.1))) (by decide)) hk (fun _ h => h.2)) (fun _ h => h.1)); have n2_ := Aside0.mk (Kd.qS (Kd.zN (IsS83.apart (show IsS83 w _ g311 t309 t320 from by repeat (first | (with_reducible first | exact HI311.out | apply IsS83.alloc | apply IsS83.drewN | apply IsS83.drew | apply IsS83.set_1 | refine IsS83.far ?_ NB311_308.out _ | refine IsS83.far ?_ NB311_321.out _) | exact HI311.out)) (by (with_reducible repeat (first | apply Kd.qU | apply Kd.qT | apply Kd.qV)); exact (Kd.qS (Kd.R_far (p := ⟨gb321, 3, none⟩) (Kd.R_far (p := ⟨gb321, 2, none⟩) (Kd.R_far (p := ⟨gb321, 1, none⟩) (Kd.R_far (p := ⟨gb321, 0, none⟩) (Kd.qW HO317.out BK321.out (by decide)) (fun _ hk => hk.2) (.slice Ao14 t312.length co14)) (fun _ hk => hk.2) (.slice Ao18 t315.length co18)) (fun _ hk => hk.2) (.int .i64 t318)) (fun _ hk => hk.2) (.int .i64 t319)) (fun _ h_ => h_.1))) (by decide)) hk (fun _ h => h.2)) (fun _ h => h.1)); have n3_ := Aside0.mk (KeepBut.blk hk (g' := gb321) (o := .cells #[.slice Ao14 t312.length co14, .slice Ao18 t315.length co18, .int .i64 t318, .int .i64 t319] 26 (0, 0)) (by (with_reducible repeat (first | refine qH ?_ _ | refine qI ?_ | refine qE ?_ _)); refine qN (cs := #[.slice Ao14 t312.length co14, .slice Ao18 t315.length co18, .int .i64 t318, .int .i64 0]) ?_ 3 _ rfl; (with_reducible repeat (first | refine qH ?_ _ | refine qI ?_ | refine qE ?_ _)); refine qN (cs := #[.slice Ao14 t312.length co14, .slice Ao18 t315.length co18, .int .i64 0, .int .i64 0]) ?_ 2 _ rfl; (with_reducible repeat (first | refine qH ?_ _ | refine qI ?_ | refine qE ?_ _)); refine qN (cs := #[.slice Ao14 t312.length co14, .slice none 0 0, .int .i64 0, .int .i64 0]) ?_ 1 _ rfl; (with_reducible repeat (first | refine qH ?_ _ | refine qI ?_ | refine qE ?_ _)); refine qN (cs := #[.slice none 0 0, .slice none 0 0, .int .i64 0, .int .i64 0]) ?_ 0 _ rfl; (with_reducible repeat (first | refine qH ?_ _ | refine qI ?_ | refine qE ?_ _)); exact BK321.out) NB321_311.out (by simp)); have n4_ := Aside0.mk (hb); have n5_ := Aside0.mk (hi); clear BK308; clear HO314; clear HO317; clear BK321; clear HB; clear HI311; have BK308 := n0_; have HO314 := n1_; have HO317 := n2_; have BK321 := n3_; have HB := n4_; have HI311 := n5_; clear n0_ n1_ n2_ n3_ n4_ n5_; (try clear hb); (try clear hb2); (try clear hk); (try clear hi)) | ((with_reducible refine qZ (N := 15) rfl ?_); refine Kd.R_lit (Kd.int .i64) _ 3 ?hg (N := 15) ?hd (xs := ([0, 1, 2, 22, 41, (-1), 42, t322] : List Int)) (inner := [.int .i64 0, .int .i64 1, .int .i64 2, .int .i64 22, .int .i64 41, .int .i64 (-1), .int .i64 42, .int .i64 t322]) (ok := fun _ => True) (okp := fun _ => True) ?hr ?hp (fun _ hk => hk) trivial (Below.refl _ _) (Nat.le_refl _) (by simp) ?_; (case hd => rfl); (case hg => rfl); (case hr => first | (go_simp; done) | (go_simp; rfl)); (case hp => exact (Reps.one (show Kd.M (Kd.int .i64) _ _ _ 0 [.int .i64 0] from rfl) (Reps.one (show Kd.M (Kd.int .i64) _ _ _ 1 [.int .i64 1] from rfl) (Reps.one (show Kd.M (Kd.int .i64) _ _ _ 2 [.int .i64 2] from rfl) (Reps.one (show Kd.M (Kd.int .i64) _ _ _ 22 [.int .i64 22] from rfl) (Reps.one (show Kd.M (Kd.int .i64) _ _ _ 41 [.int .i64 41] from rfl) (Reps.one (show Kd.M (Kd.int .i64) _ _ _ (-1) [.int .i64 (-1)] from rfl) (Reps.one (show Kd.M (Kd.int .i64) _ _ _ 42 [.int .i64 42] from rfl) (Reps.one (show Kd.M (Kd.int .i64) _ _ _ t322 [.int .i64 t322] from rfl) (Reps.none _ _)))))))))); intro v325 w20 ho21 hb hg_ hnew_; clear hg_ hnew_; (first | rw [← Ny324.out] at ho21 | (simp only [Int.reduceToNat] at ho21; rw [← Ny324.out] at ho21)); have n0_ := Aside0.mk (Kd.zR (qw_ HO314.out) hb); have n1_ := Aside0.mk (Kd.zB (rw_ HO317.out) hb); have n2_ := Aside0.mk (Kd.zJ ho21 (qP (by repeat (first | (with_reducible first | exact HB.out | apply qG | apply qD | apply qF | refine qC ?_ (IsS83.ge HI311.out) | refine qC ?_ GE308.out | refine qC ?_ GE321.out) | exact HB.out)))); have n3_ := Aside0.mk (qL (g := gb308) (o := .cells #[.slice none 0 0, .slice none 0 0, .int .i64 0, .int .i64 0] 26 (0, 0)) (bw_ BK308.out) hb); have n4_ := Aside0.mk (IsS83.below (by repeat (first | (with_reducible first | exact HI311.out | apply IsS83.alloc | apply IsS83.drewN | apply IsS83.drew | apply IsS83.set_1 | refine IsS83.far ?_ NB311_308.out _ | refine IsS83.far ?_ NB311_321.out _) | exact HI311.out)) hb); have n5_ := Aside0.mk (qL (g := gb321) (o := .cells #[.slice Ao14 t312.length co14, .slice Ao18 t315.length co18, .int .i64 t318, .int .i64 t319] 26 (0, 0)) (bw_ BK321.out) hb); have n6_ := Aside0.mk (qQ (by repeat (first | (with_reducible first | exact HB.out | apply qG | apply qD | apply qF | refine qC ?_ (IsS83.ge HI311.out) | refine qC ?_ GE308.out | refine qC ?_ GE321.out) | exact HB.out)) hb); clear HO314; clear HO317; clear BK308; clear HI311; clear BK321; clear HB; have HO314 := n0_; have HO317 := n1_; have HO326 := n2_; have BK308 := n3_; have HI311 := n4_; have BK321 := n5_; have HB := n6_; clear n0_ n1_ n2_ n3_ n4_ n5_ n6_; clear hb ho21; obtain ⟨Ao22, co22, eo22⟩ := Kd.zD HO326.out; subst eo22) | ((with_reducible refine qX (f := 40) rfl ?_); refine zM (some 16) rfl rfl Try.func40 (by kernel_rfl) rfl #[.pointer (some ⟨g311, 0, none⟩), .slice Ao22 y324.length co22] rfl (by (try simp only [List.map_toArray, List.map_cons, List.map_nil]); first | done | rfl | (simp only [List.length_drop, List.length_take]; rfl)) ?_; (with_reducible refine (spec_l1Rd_one.calls k g311 t309 t323 _ _ y324 t327 t328 w _ ?side1 ?side2 ?side3 ?side4 ?side5 A5.out).mono ?_); (case side1 => repeat (first | (with_reducible first | exact HI311.out | apply IsS83.alloc | apply IsS83.drewN | apply IsS83.drew | apply IsS83.set_1 | refine IsS83.far ?_ NB311_308.out _ | refine IsS83.far ?_ NB311_321.out _) | exact HI311.out)); (case side2 => repeat (first | (with_reducible first | exact HB.out | apply qG | apply qD | apply qF | refine qC ?_ (IsS83.ge HI311.out) | refine qC ?_ GE308.out | refine qC ?_ GE321.out) | exact HB.out)); (case side3 => repeat (first | exact (Kd.zC HO326.out).2.2 | (with_reducible refine Kd.zF ?_ _) | (with_reducible refine Kd.zG ?_ _) | (with_reducible refine Kd.zL ?_))); (case side4 => exact (Kd.zC HO326.out).2.1); (case side5 => exact far_slice (IsS83.own_ne HI311.out HO326.out (by decide))); rintro e w23 ⟨rfl, hi, hb, hk⟩; refine ⟨_, rfl, ?_⟩; have n0_ := Aside0.mk (KeepBut.blk hk (g' := gb308) (o := .cells #[.slice none 0 0, .slice none 0 0, .int .i64 0, .int .i64 0] 26 (0, 0)) (bw_ BK308.out) NB308_311.out (by simp)); have n1_ := Aside0.mk (Kd.zU (Kd.Q_keep (IsS83.apartQ (show IsS83 w _ g311 t309 t323 from by repeat (first | (with_reducible first | exact HI311.out | apply IsS83.alloc | apply IsS83.drewN | apply IsS83.drew | apply IsS83.set_1 | refine IsS83.far ?_ NB311_308.out _ | refine IsS83.far ?_ NB311_321.out _) | exact HI311.out)) (qw_ HO314.out) (by decide)) hk (fun _ h => h.2)) (fun _ h => h.1)); have n2_ := Aside0.mk (Kd.qS (Kd.zN (IsS83.apart (show IsS83 w _ g311 t309 t323 from by repeat (first | (with_reducible first | exact HI311.out | apply IsS83.alloc | apply IsS83.drewN | apply IsS83.drew | apply IsS83.set_1 | refine IsS83.far ?_ NB311_308.out _ | refine IsS83.far ?_ NB311_321.out _) | exact HI311.out)) (rw_ HO317.out) (by decide)) hk (fun _ h => h.2)) (fun _ h => h.1)); have n3_ := Aside0.mk (KeepBut.blk hk (g' := gb321) (o := .cells #[.slice Ao14 t312.length co14, .slice Ao18 t315.length co18, .int .i64 t318, .int .i64 t319] 26 (0, 0)) (bw_ BK321.out) NB321_311.out (by simp)); have n4_ := Aside0.mk (Kd.qS (Kd.zN (IsS83.apart (show IsS83 w _ g311 t309 t323 from by repeat (first | (with_reducible first | exact HI311.out | apply IsS83.alloc | apply IsS83.drewN | apply IsS83.drew | apply IsS83.set_1 | refine IsS83.far ?_ NB311_308.out _ | refine IsS83.far ?_ NB311_321.out _) | exact HI311.out)) (rw_ HO326.out) (by decide)) hk (fun _ h => h.2)) (fun _ h => h.1)); have n5_ := Aside0.mk (hb); have n6_ := Aside0.mk (hi); clear BK308; clear HO314; clear HO317; clear BK321; clear HO326; clear HB; clear HI311; have BK308 := n0_; have HO314 := n1_; have HO317 := n2_; have BK321 := n3_; have HO326 := n4_; have HB := n5_; have HI311 := n6_; clear n0_ n1_ n2_ n3_ n4_ n5_ n6_; (try clear hb); (try clear hb2); (try clear hk); (try clear hi)) | ((with_reducible refine qX (f := 34) rfl ?_); refine zM (some 18) rfl rfl Try.func34 (by kernel_rfl) rfl #[.pointer (some ⟨g311, 0, none⟩), .int .i64 20] rfl (by (try simp only [List.map_toArray, List.map_cons, List.map_nil]); first | done | rfl | (simp only [List.length_drop, List.length_take]; rfl)) ?_; (with_reducible refine (spec_l1Rd_pick.calls k g311 t309 t328 20 t329 t330 w _ ?side1 ?side2 A6.out).mono ?_); (case side1 => repeat (first | (with_reducible first | exact HI311.out | apply IsS83.alloc | apply IsS83.drewN | apply IsS83.drew | apply IsS83.set_1 | refine IsS83.far ?_ NB311_308.out _ | refine IsS83.far ?_ NB311_321.out _) | exact HI311.out)); (case side2 => repeat (first | (with_reducible first | exact HB.out | apply qG | apply qD | apply qF | refine qC ?_ (IsS83.ge HI311.out) | refine qC ?_ GE308.out | refine qC ?_ GE321.out) | exact HB.out)); rintro e w24 ⟨rfl, hi, hb, hk⟩; refine ⟨_, rfl, ?_⟩; have n0_ := Aside0.mk (KeepBut.blk hk (g' := gb308) (o := .cells #[.slice none 0 0, .slice none 0 0, .int .i64 0, .int .i64 0] 26 (0, 0)) (bw_ BK308.out) NB308_311.out (by simp)); have n1_ := Aside0.mk (Kd.zU (Kd.Q_keep (IsS83.apartQ (show IsS83 w _ g311 t309 t328 from by repeat (first | (with_reducible first | exact HI311.out | apply IsS83.alloc | apply IsS83.drewN | apply IsS83.drew | apply IsS83.set_1 | refine IsS83.far ?_ NB311_308.out _ | refine IsS83.far ?_ NB311_321.out _) | exact HI311.out)) (qw_ HO314.out) (by decide)) hk (fun _ h => h.2)) (fun _ h => h.1)); have n2_ := Aside0.mk (Kd.qS (Kd.zN (IsS83.apart (show IsS83 w _ g311 t309 t328 from by repeat (first | (with_reducible first | exact HI311.out | apply IsS83.alloc | apply IsS83.drewN | apply IsS83.drew | apply IsS83.set_1 | refine IsS83.far ?_ NB311_308.out _ | refine IsS83.far ?_ NB311_321.out _) | exact HI311.out)) (rw_ HO317.out) (by decide)) hk (fun _ h => h.2)) (fun _ h => h.1)); have n3_ := Aside0.mk (KeepBut.blk hk (g' := gb321) (o := .cells #[.slice Ao14 t312.length co14, .slice Ao18 t315.length co18, .int .i64 t318, .int .i64 t319] 26 (0, 0)) (bw_ BK321.out) NB321_311.out (by simp)); have n4_ := Aside0.mk (Kd.qS (Kd.zN (IsS83.apart (show IsS83 w _ g311 t309 t328 from by repeat (first | (with_reducible first | exact HI311.out | apply IsS83.alloc | apply IsS83.drewN | apply IsS83.drew | apply IsS83.set_1 | refine IsS83.far ?_ NB311_308.out _ | refine IsS83.far ?_ NB311_321.out _) | exact HI311.out)) (rw_ HO326.out) (by decide)) hk (fun _ h => h.2)) (fun _ h => h.1)); have n5_ := Aside0.mk (hb); have n6_ := Aside0.mk (hi); clear BK308; clear HO314; clear HO317; clear BK321; clear HO326; clear HB; clear HI311; have BK308 := n0_; have HO314 := n1_; have HO317 := n2_; have BK321 := n3_; have HO326 := n4_; have HB := n5_; have HI311 := n6_; clear n0_ n1_ n2_ n3_ n4_ n5_ n6_; (try clear hb); (try clear hb2); (try clear hk); (try clear hi)))
    have n0_ := Aside0.mk (Kd.zP HO314.out)
    have n1_ := Aside0.mk (Kd.qV HO317.out)
    have n2_ := Aside0.mk (Kd.qV HO326.out)
    have n3_ := Aside0.mk (qI BK308.out)
    have n4_ := Aside0.mk (qI BK321.out)
    have n5_ := Aside0.mk (IsS83.drew HI311.out)
    have n6_ := Aside0.mk (qF HB.out)
    clear HO314
    clear HO317
    clear HO326
    clear BK308
    clear BK321
    clear HI311
    clear HB
    have HO314 := n0_
    have HO317 := n1_
    have HO326 := n2_
    have BK308 := n3_
    have BK321 := n4_
    have HI311 := n5_
    have HB := n6_
    clear n0_ n1_ n2_ n3_ n4_ n5_ n6_
    refine start_ (n := 9) (S := fun w' => w'.cell? ⟨gb321, 0, none⟩ = some (.slice Ao14 t312.length co14) ∧ w'.cell? ⟨gb321, 1, none⟩ = some (.slice Ao18 t315.length co18) ∧ w'.cell? ⟨gb321, 2, none⟩ = some (.int .i64 t318) ∧ w'.cell? ⟨gb321, 3, none⟩ = some (.int .i64 t319)) (ds := []) #[false, false, false, false, false, false, false, false, false] (by kernel_rfl) rfl rfl ⟨(qA BK321.out 0).trans rfl, (qA BK321.out 1).trans rfl, (qA BK321.out 2).trans rfl, (qA BK321.out 3).trans rfl⟩ (fun hHeld => ?_); refine with_tabW spec_DrawDiskWrite.tab5 spec_DrawDiskWrite.bits5 (fun HT_ HW_ => ?_)
    generalize w24.drew = w25 at HO314 HO317 HO326 BK308 BK321 HI311 HB hHeld ⊢
    refine pure_ (i := 1) (N := some 21) (v := ?_) (a' := ?_) #[false, true, false, false, false, false, false, false, false] rfl rfl (zI HT_.out (by kernel_rfl)) (fun _ _ _ h => h) (Or.inl ⟨by rfl, ?_⟩) ?_ ?_
    rotate_left
    · intro w'
      go_simp
      with_reducible rfl
    rotate_left
    · simp only [Act.put, List.setIfInBounds_toArray, List.set_cons_zero, List.set_cons_succ, i64_w, i32_w]
      rfl
    refine pure_ (i := 2) (N := some 22) (v := ?_) (a' := ?_) #[false, true, true, false, false, false, false, false, false] rfl rfl (zI HT_.out (by kernel_rfl)) (fun _ _ _ h => h) (Or.inl ⟨by rfl, ?_⟩) ?_ ?_
    rotate_left
    · intro w'
      go_simp
      with_reducible rfl
    rotate_left
    · simp only [Act.put, List.setIfInBounds_toArray, List.set_cons_zero, List.set_cons_succ, i64_w, i32_w]
      rfl
    refine take_ (i := 0) (N := some 20) (v := ?_) (a' := ?_) #[true, true, true, false, false, false, false, false, false] rfl rfl (zX HT_.out HW_.out (by kernel_rfl)) (fun _ _ _ h => h) (Or.inl ⟨by rfl, ?_⟩) hHeld ?_ ?_
    rotate_left
    · rintro w' ⟨s0, s1, s2, s3⟩
      go_simp
      with_reducible rfl
    rotate_left
    · simp only [Act.put, List.setIfInBounds_toArray, List.set_cons_zero, List.set_cons_succ, i64_w, i32_w]
      rfl
    refine one_ (i := 3) (N := some 23) #[true, true, true, true, false, false, false, false, false] rfl rfl (zW HT_.out (by kernel_rfl)) (by decide) (fun K hK => ?_)
    refine goes_ Try.func34 (by kernel_rfl) rfl #[.pointer (some ⟨g311, 0, none⟩), .int .i64 2] (by rfl) rfl rfl (by (try simp only [List.map_toArray, List.map_cons, List.map_nil]); first | done | rfl | (simp only [List.length_drop, List.length_take]; rfl)) ?_
    with_reducible refine (spec_l1Rd_pick.calls k g311 t309 t330 2 t331 t332 w _ ?side1 ?side2 A8.out).mono ?_
    (case side1 => repeat (first | (with_reducible first | exact HI311.out | apply IsS83.alloc | apply IsS83.drewN | apply IsS83.drew | apply IsS83.set_1 | refine IsS83.far ?_ NB311_308.out _ | refine IsS83.far ?_ NB311_321.out _) | exact HI311.out))
    (case side2 => repeat (first | (with_reducible first | exact HB.out | apply qG | apply qD | apply qF | refine qC ?_ (IsS83.ge HI311.out) | refine qC ?_ GE308.out | refine qC ?_ GE321.out) | exact HB.out))
    rintro e w26 ⟨rfl, hi, hb, hk⟩
    refine ⟨_, rfl, ?_⟩
    have n0_ := Aside0.mk (KeepBut.blk hk (g' := gb308) (o := .cells #[.slice none 0 0, .slice none 0 0, .int .i64 0, .int .i64 0] 26 (0, 0)) (bw_ BK308.out) NB308_311.out (by simp))
    have n1_ := Aside0.mk (Kd.zU (Kd.Q_keep (IsS83.apartQ (show IsS83 w _ g311 t309 t330 from by repeat (first | (with_reducible first | exact HI311.out | apply IsS83.alloc | apply IsS83.drewN | apply IsS83.drew | apply IsS83.set_1 | refine IsS83.far ?_ NB311_308.out _ | refine IsS83.far ?_ NB311_321.out _) | exact HI311.out)) (qw_ HO314.out) (by decide)) hk (fun _ h => h.2)) (fun _ h => h.1))
    have n2_ := Aside0.mk (Kd.qS (Kd.zN (IsS83.apart (show IsS83 w _ g311 t309 t330 from by repeat (first | (with_reducible first | exact HI311.out | apply IsS83.alloc | apply IsS83.drewN | apply IsS83.drew | apply IsS83.set_1 | refine IsS83.far ?_ NB311_308.out _ | refine IsS83.far ?_ NB311_321.out _) | exact HI311.out)) (rw_ HO317.out) (by decide)) hk (fun _ h => h.2)) (fun _ h => h.1))
    have n3_ := Aside0.mk (KeepBut.blk hk (g' := gb321) (o := .cells #[.slice Ao14 t312.length co14, .slice Ao18 t315.length co18, .int .i64 t318, .int .i64 t319] 26 (0, 0)) (bw_ BK321.out) NB321_311.out (by simp))
    have n4_ := Aside0.mk (Kd.qS (Kd.zN (IsS83.apart (show IsS83 w _ g311 t309 t330 from by repeat (first | (with_reducible first | exact HI311.out | apply IsS83.alloc | apply IsS83.drewN | apply IsS83.drew | apply IsS83.set_1 | refine IsS83.far ?_ NB311_308.out _ | refine IsS83.far ?_ NB311_321.out _) | exact HI311.out)) (rw_ HO326.out) (by decide)) hk (fun _ h => h.2)) (fun _ h => h.1))
    have n5_ := Aside0.mk (hb)
    have n6_ := Aside0.mk (hi)
    clear BK308
    clear HO314
    clear HO317
    clear BK321
    clear HO326
    clear HB
    clear HI311
    have BK308 := n0_
    have HO314 := n1_
    have HO317 := n2_
    have BK321 := n3_
    have HO326 := n4_
    have HB := n5_
    have HI311 := n6_
    clear n0_ n1_ n2_ n3_ n4_ n5_ n6_
    (try clear hb)
    (try clear hb2)
    (try clear hk)
    (try clear hi)
    refine hK.out _ _ ⟨(qA BK321.out 0).trans rfl, (qA BK321.out 1).trans rfl, (qA BK321.out 2).trans rfl, (qA BK321.out 3).trans rfl⟩ (fun hHeld => ?_)
    clear hK K
    refine norm_ (a' := ?_) ?_ ?_
    rotate_left
    · show Act.put _ (some 23) _ = _
      simp only [Act.put, List.setIfInBounds_toArray, List.set_cons_zero, List.set_cons_succ, i64_w, i32_w]
      rfl
    refine pure_ (i := 4) (N := some 24) (v := ?_) (a' := ?_) #[true, true, true, true, true, false, false, false, false] rfl rfl (zI HT_.out (by kernel_rfl)) (fun _ _ _ h => h) (Or.inl ⟨by rfl, ?_⟩) ?_ ?_
    rotate_left
    · intro w'
      go_simp
      with_reducible rfl
    rotate_left
    · simp only [Act.put, List.setIfInBounds_toArray, List.set_cons_zero, List.set_cons_succ, i64_w, i32_w]
      rfl
    refine one_ (i := 5) (N := some 25) #[true, true, true, true, true, true, false, false, false] rfl rfl (zW HT_.out (by kernel_rfl)) (by decide) (fun K hK => ?_)
    refine goes_ Try.func41 (by kernel_rfl) rfl #[.string (⟨#[116]⟩ : ByteArray), .int .i64 (wrap64 (1200 + t331))] (by rfl) rfl rfl (by (try simp only [List.map_toArray, List.map_cons, List.map_nil]); first | done | rfl | (simp only [List.length_drop, List.length_take]; rfl)) ?_
    with_reducible refine (spec_l1Many.calls k (⟨#[116]⟩ : ByteArray) (wrap64 (1200 + t331)) t333 _ A9.out).mono ?_
    rintro e w' ⟨rfl, ⟨nd, rfl⟩⟩
    refine ⟨_, rfl, ?_⟩
    (try (rw [drewN_self w26]; generalize hq_ : World.drewN w26 _ = w26; have n0_ : Aside0 (Kd.Q Kd.string 9 w26 w.heap.size (fun _ => True) (.slice Ao14 t312.length co14) t312) := ⟨by rw [← hq_]; exact (qw_ HO314.out)⟩; have n1_ : Aside0 (Kd.R k70 70 w26 w.heap.size (fun _ => True) (.slice Ao18 t315.length co18) t315) := ⟨by rw [← hq_]; exact (rw_ HO317.out)⟩; have n2_ : Aside0 (Kd.R (Kd.int .i64) 3 w26 w.heap.size (fun _ => True) (.slice Ao22 y324.length co22) y324) := ⟨by rw [← hq_]; exact (rw_ HO326.out)⟩; have n3_ : Aside0 (w26.heap[gb308]? = some (.cells #[.slice none 0 0, .slice none 0 0, .int .i64 0, .int .i64 0] 26 (0, 0))) := ⟨by rw [← hq_]; exact (bw_ BK308.out)⟩; have n4_ : Aside0 (w26.heap[gb321]? = some (.cells #[.slice Ao14 t312.length co14, .slice Ao18 t315.length co18, .int .i64 t318, .int .i64 t319] 26 (0, 0))) := ⟨by rw [← hq_]; exact (bw_ BK321.out)⟩; have n5_ : Aside0 (IsS83 w w26 g311 t309 t332) := ⟨by rw [← hq_]; exact (by repeat (first | (with_reducible first | exact HI311.out | apply IsS83.alloc | apply IsS83.drewN | apply IsS83.drew | apply IsS83.set_1 | refine IsS83.far ?_ NB311_308.out _ | refine IsS83.far ?_ NB311_321.out _) | exact HI311.out))⟩; have n6_ : Aside0 (Below w.heap.size w w26) := ⟨by rw [← hq_]; exact (by repeat (first | (with_reducible first | exact HB.out | apply qG | apply qD | apply qF | refine qC ?_ (IsS83.ge HI311.out) | refine qC ?_ GE308.out | refine qC ?_ GE321.out) | exact HB.out))⟩; clear HO314 HO317 HO326 BK308 BK321 HI311 HB hq_; have HO314 := n0_; have HO317 := n1_; have HO326 := n2_; have BK308 := n3_; have BK321 := n4_; have HI311 := n5_; have HB := n6_; clear n0_ n1_ n2_ n3_ n4_ n5_ n6_))
    refine hK.out _ _ ⟨(qA BK321.out 0).trans rfl, (qA BK321.out 1).trans rfl, (qA BK321.out 2).trans rfl, (qA BK321.out 3).trans rfl⟩ (fun hHeld => ?_)
    clear hK K
    refine norm_ (a' := ?_) ?_ ?_
    rotate_left
    · show Act.put _ (some 25) _ = _
      simp only [Act.put, List.setIfInBounds_toArray, List.set_cons_zero, List.set_cons_succ, i64_w, i32_w]
      rfl
    refine one_ (i := 6) (N := none) #[true, true, true, true, true, true, true, false, false] rfl rfl (zW HT_.out (by kernel_rfl)) (by decide) (fun K hK => ?_)
    have hs27 : w26.cell? ⟨gb308, 0, none⟩ = some (.slice none 0 0) := (qA BK308.out 0).trans rfl
    have hfs27 := qB BK308.out 0
    have hns27_1 := NB321_308.out
    have hms27_1 := NB308_321.out
    have hs28 : w26.cell? ⟨gb308, 1, none⟩ = some (.slice none 0 0) := (qA BK308.out 1).trans rfl
    have hfs28 := qB BK308.out 1
    have hns28_1 := NB321_308.out
    have hms28_1 := NB308_321.out
    have hs29 : w26.cell? ⟨gb308, 2, none⟩ = some (.int .i64 0) := (qA BK308.out 2).trans rfl
    have hfs29 := qB BK308.out 2
    have hns29_1 := NB321_308.out
    have hms29_1 := NB308_321.out
    have hs30 : w26.cell? ⟨gb308, 3, none⟩ = some (.int .i64 0) := (qA BK308.out 3).trans rfl
    have hfs30 := qB BK308.out 3
    have hns30_1 := NB321_308.out
    have hms30_1 := NB308_321.out
    refine skip_ (w1 := ?_) (by rfl) rfl ?_ ?_
    rotate_left
    · go_simp
      rfl
    refine hK.out _ _ ⟨((zK (p := ⟨gb308, _, none⟩) NB321_308.out _).trans (((zK (p := ⟨gb308, _, none⟩) NB321_308.out _).trans (((zK (p := ⟨gb308, _, none⟩) NB321_308.out _).trans (((zK (p := ⟨gb308, _, none⟩) NB321_308.out _).trans (hHeld.1)))))))), ((zK (p := ⟨gb308, _, none⟩) NB321_308.out _).trans (((zK (p := ⟨gb308, _, none⟩) NB321_308.out _).trans (((zK (p := ⟨gb308, _, none⟩) NB321_308.out _).trans (((zK (p := ⟨gb308, _, none⟩) NB321_308.out _).trans (hHeld.2.1)))))))), ((zK (p := ⟨gb308, _, none⟩) NB321_308.out _).trans (((zK (p := ⟨gb308, _, none⟩) NB321_308.out _).trans (((zK (p := ⟨gb308, _, none⟩) NB321_308.out _).trans (((zK (p := ⟨gb308, _, none⟩) NB321_308.out _).trans (hHeld.2.2.1)))))))), ((zK (p := ⟨gb308, _, none⟩) NB321_308.out _).trans (((zK (p := ⟨gb308, _, none⟩) NB321_308.out _).trans (((zK (p := ⟨gb308, _, none⟩) NB321_308.out _).trans (((zK (p := ⟨gb308, _, none⟩) NB321_308.out _).trans (hHeld.2.2.2))))))))⟩ (fun hHeld => ?_)
    clear hK K
    refine pure_ (i := 7) (N := some 3) (v := ?_) (a' := ?_) #[true, true, true, true, true, true, true, true, false] rfl rfl (zI HT_.out (by kernel_rfl)) (fun _ _ _ h => h) (Or.inl ⟨by rfl, ?_⟩) ?_ ?_
    rotate_left
    · intro w'
      go_simp
      with_reducible rfl
    rotate_left
    · simp only [Act.put, List.setIfInBounds_toArray, List.set_cons_zero, List.set_cons_succ, i64_w, i32_w]
      rfl
    refine pure_ (i := 8) (N := some 4) (v := ?_) (a' := ?_) #[true, true, true, true, true, true, true, true, true] rfl rfl (zI HT_.out (by kernel_rfl)) (fun _ _ _ h => h) (Or.inl ⟨by rfl, ?_⟩) ?_ ?_
    rotate_left
    · intro w'
      go_simp
      with_reducible rfl
    rotate_left
    · simp only [Act.put, List.setIfInBounds_toArray, List.set_cons_zero, List.set_cons_succ, i64_w, i32_w]
      rfl
    refine done_ (done_of HT_.out (by kernel_rfl)) ?_
    try go_wp2
    refine bodyPost_ret (results_ctt rfl _ _ gb308 26 #[.slice Ao14 t312.length co14, .slice Ao18 t315.length co18, .int .i64 t318, .int .i64 t319] (0, 0) _ rfl (by (with_reducible repeat (first | refine qH ?_ _ | refine qI ?_ | refine qE ?_ _)); refine qN (cs := #[.slice Ao14 t312.length co14, .slice Ao18 t315.length co18, .int .i64 t318, .int .i64 0]) ?_ 3 _ rfl; (with_reducible repeat (first | refine qH ?_ _ | refine qI ?_ | refine qE ?_ _)); refine qN (cs := #[.slice Ao14 t312.length co14, .slice Ao18 t315.length co18, .int .i64 0, .int .i64 0]) ?_ 2 _ rfl; (with_reducible repeat (first | refine qH ?_ _ | refine qI ?_ | refine qE ?_ _)); refine qN (cs := #[.slice Ao14 t312.length co14, .slice none 0 0, .int .i64 0, .int .i64 0]) ?_ 1 _ rfl; (with_reducible repeat (first | refine qH ?_ _ | refine qI ?_ | refine qE ?_ _)); refine qN (cs := #[.slice none 0 0, .slice none 0 0, .int .i64 0, .int .i64 0]) ?_ 0 _ rfl; (with_reducible repeat (first | refine qH ?_ _ | refine qI ?_ | refine qE ?_ _)); exact BK308.out) Try.underlying26 rfl (by kernel_rfl)) rfl ?_
    exact ⟨_, _, by first | rfl | (simp [errW_none, errW_some] <;> rfl) | (simp [*, errW_none, errW_some] <;> rfl), by (with_reducible repeat (first | apply Kd.zS | apply Kd.zT | apply Kd.zP)); exact Kd.zU (Kd.Q_far (p := ⟨gb308, 3, none⟩) (Kd.Q_far (p := ⟨gb308, 2, none⟩) (Kd.Q_far (p := ⟨gb308, 1, none⟩) (Kd.Q_far (p := ⟨gb308, 0, none⟩) (Kd.zZ HO314.out BK308.out (by decide)) (fun _ hk => hk.2) (.slice Ao14 t312.length co14)) (fun _ hk => hk.2) (.slice Ao18 t315.length co18)) (fun _ hk => hk.2) (.int .i64 t318)) (fun _ hk => hk.2) (.int .i64 t319)) (fun _ hk => trivial), by (with_reducible repeat (first | apply Kd.qU | apply Kd.qT | apply Kd.qV)); exact Kd.qS (Kd.R_far (p := ⟨gb308, 3, none⟩) (Kd.R_far (p := ⟨gb308, 2, none⟩) (Kd.R_far (p := ⟨gb308, 1, none⟩) (Kd.R_far (p := ⟨gb308, 0, none⟩) (Kd.qW HO317.out BK308.out (by decide)) (fun _ hk => hk.2) (.slice Ao14 t312.length co14)) (fun _ hk => hk.2) (.slice Ao18 t315.length co18)) (fun _ hk => hk.2) (.int .i64 t318)) (fun _ hk => hk.2) (.int .i64 t319)) (fun _ hk => trivial), by repeat (first | (with_reducible first | exact HB.out | apply qG | apply qD | apply qF | refine qC ?_ (IsS83.ge HI311.out) | refine qC ?_ GE308.out | refine qC ?_ GE321.out) | exact HB.out)⟩
  · rw [if_neg c7] at H
    have c7b0 : (t329 == 0) = false := beq_eq_false_iff_ne.mpr c7
    have c7b1 : (t329 != 0) = true := bne_iff_ne.mpr c7
    replace H := Option.bind_eq_some_iff.mp H
    obtain ⟨⟨t334, t335⟩, A310, H⟩ := H
    replace H : (some (t312, t315, t318, t319, t327, t334)) = some (r1, r2, r3, r4, r5, r6) := H
    have A31 := Aside0.mk A310
    clear A310
    simp only [Option.some.injEq, Prod.mk.injEq] at H
    obtain ⟨rfl, rfl, rfl, rfl, rfl, rfl⟩ := H
    go_enter Try.func17, Try.ntmps17
    try go_wp2_with (first | ((with_reducible refine qZ (N := 2) rfl ?_); refine qY ?hg (N := 2) ?hd (cs := #[.slice none 0 0, .slice none 0 0, .int .i64 0, .int .i64 0]) (t := 26) ?hr ?_; (case hd => rfl); (case hg => rfl); (case hr => first | (go_simp; done) | (go_simp; rfl)); intro gb308 hg w32 hbox hb; have n0_ := Aside0.mk (qQ (by repeat (first | (with_reducible first | exact HB.out | apply qG | apply qD | apply qF) | exact HB.out)) hb); have n1_ := Aside0.mk (hbox); have n2_ := Aside0.mk ((by rw [hg]; exact (qP (by repeat (first | (with_reducible first | exact HB.out | apply qG | apply qD | apply qF) | exact HB.out))) : w.heap.size ≤ gb308)); have n3_ := Aside0.mk ((by rw [hg]; exact (qP (by repeat (first | (with_reducible first | exact HB.out | apply qG | apply qD | apply qF) | exact HB.out))) : w.heap.size ≤ gb308)); clear HB; have HB := n0_; have BK308 := n1_; have GW308 := n2_; have GE308 := n3_; clear n0_ n1_ n2_ n3_; clear hb hbox hg) | ((with_reducible refine qX (f := 32) rfl ?_); refine zM (some 9) rfl rfl Try.func32 (by kernel_rfl) rfl #[.slice A0 l0.length c0] rfl (by (try simp only [List.map_toArray, List.map_cons, List.map_nil]); first | done | rfl | (simp only [List.length_drop, List.length_take]; rfl)) ?_; (with_reducible refine (spec_l1Open.calls _ _ l0 t309 t310 w _ ?side1 ?side2 ?side3 A2.out).mono ?_); (case side1 => repeat (first | (with_reducible first | exact HB.out | apply qG | apply qD | apply qF | refine qC ?_ GE308.out) | exact HB.out)); (case side2 => exact HR0.out); (case side3 => exact HC0.out); rintro e w33 ⟨g311, rfl, hi, hb, hb2⟩; refine ⟨_, rfl, ?_⟩; have n0_ := Aside0.mk (qL (g := gb308) (o := .cells #[.slice none 0 0, .slice none 0 0, .int .i64 0, .int .i64 0] 26 (0, 0)) (bw_ BK308.out) hb2); have n1_ := Aside0.mk (hb); have n2_ := Aside0.mk (hi); have n3_ := Aside0.mk (IsS83.ne_blk hi (qL (g := gb308) (o := .cells #[.slice none 0 0, .slice none 0 0, .int .i64 0, .int .i64 0] 26 (0, 0)) (bw_ BK308.out) hb2) (by decide)); have n4_ := Aside0.mk (Ne.symm (IsS83.ne_blk hi (qL (g := gb308) (o := .cells #[.slice none 0 0, .slice none 0 0, .int .i64 0, .int .i64 0] 26 (0, 0)) (bw_ BK308.out) hb2) (by decide))); clear BK308; clear HB; have BK308 := n0_; have HB := n1_; have HI311 := n2_; have NB311_308 := n3_; have NB308_311 := n4_; clear n0_ n1_ n2_ n3_ n4_; (try clear hb); (try clear hb2); (try clear hk); (try clear hi)) | ((with_reducible refine qX (f := 33) rfl ?_); refine zM (some 11) rfl rfl Try.func33 (by kernel_rfl) rfl #[.pointer (some ⟨g311, 0, none⟩)] rfl (by (try simp only [List.map_toArray, List.map_cons, List.map_nil]); first | done | rfl | (simp only [List.length_drop, List.length_take]; rfl)) ?_; (with_reducible refine (spec_l15AnyDisk.calls k g311 t309 t310 t312 t315 t318 t319 t320 w _ ?side1 ?side2 A3.out).mono ?_); (case side1 => repeat (first | (with_reducible first | exact HI311.out | apply IsS83.alloc | apply IsS83.drewN | apply IsS83.drew | apply IsS83.set_1 | refine IsS83.far ?_ NB311_308.out _) | exact HI311.out)); (case side2 => repeat (first | (with_reducible first | exact HB.out | apply qG | apply qD | apply qF | refine qC ?_ (IsS83.ge HI311.out) | refine qC ?_ GE308.out) | exact HB.out)); rintro e w34 ⟨v313, v316, rfl, ho0, ho1, hi, hb, hk⟩; refine ⟨_, rfl, ?_⟩; have n0_ := Aside0.mk (KeepBut.blk hk (g' := gb308) (o := .cells #[.slice none 0 0, .slice none 0 0, .int .i64 0, .int .i64 0] 26 (0, 0)) (bw_ BK308.out) NB308_311.out (by simp)); have n1_ := Aside0.mk (Kd.Q_lower ho0 (qP (by repeat (first | (with_reducible first | exact HB.out | apply qG | apply qD | apply qF | refine qC ?_ (IsS83.ge HI311.out) | refine qC ?_ GE308.out) | exact HB.out)))); have n2_ := Aside0.mk (Kd.zJ ho1 (qP (by repeat (first | (with_reducible first | exact HB.out | apply qG | apply qD | apply qF | refine qC ?_ (IsS83.ge HI311.out) | refine qC ?_ GE308.out) | exact HB.out)))); have n3_ := Aside0.mk (hb); have n4_ := Aside0.mk (hi); clear BK308; clear HB; clear HI311; have BK308 := n0_; have HO314 := n1_; have HO317 := n2_; have HB := n3_; have HI311 := n4_; clear n0_ n1_ n2_ n3_ n4_; (try clear hb); (try clear hb2); (try clear hk); (try clear hi); (try clear ho0); (try clear ho1)) | ((with_reducible refine qZ (N := 6) rfl ?_); refine qY ?hg (N := 6) ?hd (cs := #[.slice none 0 0, .slice none 0 0, .int .i64 0, .int .i64 0]) (t := 26) ?hr ?_; (case hd => rfl); (case hg => rfl); (case hr => first | (go_simp; done) | (go_simp; rfl)); intro gb321 hg w35 hbox hb; have n0_ := Aside0.mk (Kd.zR (qw_ HO314.out) hb); have n1_ := Aside0.mk (Kd.zB (rw_ HO317.out) hb); have n2_ := Aside0.mk (qL (g := gb308) (o := .cells #[.slice none 0 0, .slice none 0 0, .int .i64 0, .int .i64 0] 26 (0, 0)) (bw_ BK308.out) hb); have n3_ := Aside0.mk (IsS83.below (by repeat (first | (with_reducible first | exact HI311.out | apply IsS83.alloc | apply IsS83.drewN | apply IsS83.drew | apply IsS83.set_1 | refine IsS83.far ?_ NB311_308.out _) | exact HI311.out)) hb); have n4_ := Aside0.mk (qQ (by repeat (first | (with_reducible first | exact HB.out | apply qG | apply qD | apply qF | refine qC ?_ (IsS83.ge HI311.out) | refine qC ?_ GE308.out) | exact HB.out)) hb); have n5_ := Aside0.mk (hbox); have n6_ := Aside0.mk ((by rw [hg]; exact (qP (by repeat (first | (with_reducible first | exact HB.out | apply qG | apply qD | apply qF | refine qC ?_ (IsS83.ge HI311.out) | refine qC ?_ GE308.out) | exact HB.out))) : w.heap.size ≤ gb321)); have n7_ := Aside0.mk ((by rw [hg]; exact (qP (by repeat (first | (with_reducible first | exact HB.out | apply qG | apply qD | apply qF | refine qC ?_ (IsS83.ge HI311.out) | refine qC ?_ GE308.out) | exact HB.out))) : w.heap.size ≤ gb321)); have n8_ := Aside0.mk ((by rw [hg]; exact Nat.ne_of_lt (zE (g := gb308) (o := .cells #[.slice none 0 0, .slice none 0 0, .int .i64 0, .int .i64 0] 26 (0, 0)) (bw_ BK308.out)) : gb308 ≠ gb321)); have n9_ := Aside0.mk ((by rw [hg]; exact Nat.ne_of_gt (zE (g := gb308) (o := .cells #[.slice none 0 0, .slice none 0 0, .int .i64 0, .int .i64 0] 26 (0, 0)) (bw_ BK308.out)) : gb321 ≠ gb308)); have n10_ := Aside0.mk ((by rw [hg]; exact Nat.ne_of_lt (IsS83.lt (show IsS83 w _ g311 t309 t320 from by repeat (first | (with_reducible first | exact HI311.out | apply IsS83.alloc | apply IsS83.drewN | apply IsS83.drew | apply IsS83.set_1 | refine IsS83.far ?_ NB311_308.out _) | exact HI311.out))) : g311 ≠ gb321)); have n11_ := Aside0.mk ((by rw [hg]; exact Nat.ne_of_gt (IsS83.lt (show IsS83 w _ g311 t309 t320 from by repeat (first | (with_reducible first | exact HI311.out | apply IsS83.alloc | apply IsS83.drewN | apply IsS83.drew | apply IsS83.set_1 | refine IsS83.far ?_ NB311_308.out _) | exact HI311.out))) : gb321 ≠ g311)); clear HO314; clear HO317; clear BK308; clear HI311; clear HB; have HO314 := n0_; have HO317 := n1_; have BK308 := n2_; have HI311 := n3_; have HB := n4_; have BK321 := n5_; have GW321 := n6_; have GE321 := n7_; have NB308_321 := n8_; have NB321_308 := n9_; have NB311_321 := n10_; have NB321_311 := n11_; clear n0_ n1_ n2_ n3_ n4_ n5_ n6_ n7_ n8_ n9_ n10_ n11_; clear hb hbox hg; obtain ⟨Ao36, co36, eo36, _⟩ := Kd.Q_slice HO314.out; subst eo36; have hnb37 := NB321_308.out; have hnc37 := NB308_321.out; have hnb38 := NB321_311.out; have hnc38 := NB311_321.out; have hcz39_0 : w35.cell? ⟨gb321, 0, none⟩ = some (.slice none 0 0) := (qA BK321.out 0).trans rfl; have hcz39_1 : w35.cell? ⟨gb321, 1, none⟩ = some (.slice none 0 0) := (qA BK321.out 1).trans rfl; have hcz39_2 : w35.cell? ⟨gb321, 2, none⟩ = some (.int .i64 0) := (qA BK321.out 2).trans rfl; have hcz39_3 : w35.cell? ⟨gb321, 3, none⟩ = some (.int .i64 0) := (qA BK321.out 3).trans rfl; have hfz39_0 := qB BK321.out 0; have hfz39_1 := qB BK321.out 1; have hfz39_2 := qB BK321.out 2; have hfz39_3 := qB BK321.out 3; obtain ⟨Ao40, co40, eo40⟩ := Kd.zD HO317.out; subst eo40) | ((with_reducible refine qX (f := 34) rfl ?_); refine zM (some 14) rfl rfl Try.func34 (by kernel_rfl) rfl #[.pointer (some ⟨g311, 0, none⟩), .int .i64 42] rfl (by (try simp only [List.map_toArray, List.map_cons, List.map_nil]); first | done | rfl | (simp only [List.length_drop, List.length_take]; rfl)) ?_; (with_reducible refine (spec_l1Rd_pick.calls k g311 t309 t320 42 t322 t323 w _ ?side1 ?side2 A4.out).mono ?_); (case side1 => repeat (first | (with_reducible first | exact HI311.out | apply IsS83.alloc | apply IsS83.drewN | apply IsS83.drew | apply IsS83.set_1 | refine IsS83.far ?_ NB311_308.out _ | refine IsS83.far ?_ NB311_321.out _) | exact HI311.out)); (case side2 => repeat (first | (with_reducible first | exact HB.out | apply qG | apply qD | apply qF | refine qC ?_ (IsS83.ge HI311.out) | refine qC ?_ GE308.out | refine qC ?_ GE321.out) | exact HB.out)); rintro e w41 ⟨rfl, hi, hb, hk⟩; refine ⟨_, rfl, ?_⟩; have n0_ := Aside0.mk (KeepBut.blk hk (g' := gb308) (o := .cells #[.slice none 0 0, .slice none 0 0, .int .i64 0, .int .i64 0] 26 (0, 0)) (by (with_reducible repeat (first | refine qH ?_ _ | refine qI ?_ | refine qE ?_ _)); refine qR ?_ NB308_321.out _; (with_reducible repeat (first | refine qH ?_ _ | refine qI ?_ | refine qE ?_ _)); refine qR ?_ NB308_321.out _; (with_reducible repeat (first | refine qH ?_ _ | refine qI ?_ | refine qE ?_ _)); refine qR ?_ NB308_321.out _; (with_reducible repeat (first | refine qH ?_ _ | refine qI ?_ | refine qE ?_ _)); refine qR ?_ NB308_321.out _; (with_reducible repeat (first | refine qH ?_ _ | refine qI ?_ | refine qE ?_ _)); exact BK308.out) NB308_311.out (by simp)); have n1_ := Aside0.mk (Kd.zU (Kd.Q_keep (IsS83.apartQ (show IsS83 w _ g311 t309 t320 from by repeat (first | (with_reducible first | exact HI311.out | apply IsS83.alloc | apply IsS83.drewN | apply IsS83.drew | apply IsS83.set_1 | refine IsS83.far ?_ NB311_308.out _ | refine IsS83.far ?_ NB311_321.out _) | exact HI311.out)) (by (with_reducible repeat (first | apply Kd.zS | apply Kd.zT | apply Kd.zP)); exact (Kd.zU (Kd.Q_far (p := ⟨gb321, 3, none⟩) (Kd.Q_far (p := ⟨gb321, 2, none⟩) (Kd.Q_far (p := ⟨gb321, 1, none⟩) (Kd.Q_far (p := ⟨gb321, 0, none⟩) (Kd.zZ HO314.out BK321.out (by decide)) (fun _ hk => hk.2) (.slice Ao36 t312.length co36)) (fun _ hk => hk.2) (.slice Ao40 t315.length co40)) (fun _ hk => hk.2) (.int .i64 t318)) (fun _ hk => hk.2) (.int .i64 t319)) (fun _ h_ => h_.1))) (by decide)) hk (fun _ h => h.2)) (fun _ h => h.1)); have n2_ := Aside0.mk (Kd.qS (Kd.zN (IsS83.apart (show IsS83 w _ g311 t309 t320 from by repeat (first | (with_reducible first | exact HI311.out | apply IsS83.alloc | apply IsS83.drewN | apply IsS83.drew | apply IsS83.set_1 | refine IsS83.far ?_ NB311_308.out _ | refine IsS83.far ?_ NB311_321.out _) | exact HI311.out)) (by (with_reducible repeat (first | apply Kd.qU | apply Kd.qT | apply Kd.qV)); exact (Kd.qS (Kd.R_far (p := ⟨gb321, 3, none⟩) (Kd.R_far (p := ⟨gb321, 2, none⟩) (Kd.R_far (p := ⟨gb321, 1, none⟩) (Kd.R_far (p := ⟨gb321, 0, none⟩) (Kd.qW HO317.out BK321.out (by decide)) (fun _ hk => hk.2) (.slice Ao36 t312.length co36)) (fun _ hk => hk.2) (.slice Ao40 t315.length co40)) (fun _ hk => hk.2) (.int .i64 t318)) (fun _ hk => hk.2) (.int .i64 t319)) (fun _ h_ => h_.1))) (by decide)) hk (fun _ h => h.2)) (fun _ h => h.1)); have n3_ := Aside0.mk (KeepBut.blk hk (g' := gb321) (o := .cells #[.slice Ao36 t312.length co36, .slice Ao40 t315.length co40, .int .i64 t318, .int .i64 t319] 26 (0, 0)) (by (with_reducible repeat (first | refine qH ?_ _ | refine qI ?_ | refine qE ?_ _)); refine qN (cs := #[.slice Ao36 t312.length co36, .slice Ao40 t315.length co40, .int .i64 t318, .int .i64 0]) ?_ 3 _ rfl; (with_reducible repeat (first | refine qH ?_ _ | refine qI ?_ | refine qE ?_ _)); refine qN (cs := #[.slice Ao36 t312.length co36, .slice Ao40 t315.length co40, .int .i64 0, .int .i64 0]) ?_ 2 _ rfl; (with_reducible repeat (first | refine qH ?_ _ | refine qI ?_ | refine qE ?_ _)); refine qN (cs := #[.slice Ao36 t312.length co36, .slice none 0 0, .int .i64 0, .int .i64 0]) ?_ 1 _ rfl; (with_reducible repeat (first | refine qH ?_ _ | refine qI ?_ | refine qE ?_ _)); refine qN (cs := #[.slice none 0 0, .slice none 0 0, .int .i64 0, .int .i64 0]) ?_ 0 _ rfl; (with_reducible repeat (first | refine qH ?_ _ | refine qI ?_ | refine qE ?_ _)); exact BK321.out) NB321_311.out (by simp)); have n4_ := Aside0.mk (hb); have n5_ := Aside0.mk (hi); clear BK308; clear HO314; clear HO317; clear BK321; clear HB; clear HI311; have BK308 := n0_; have HO314 := n1_; have HO317 := n2_; have BK321 := n3_; have HB := n4_; have HI311 := n5_; clear n0_ n1_ n2_ n3_ n4_ n5_; (try clear hb); (try clear hb2); (try clear hk); (try clear hi)) | ((with_reducible refine qZ (N := 15) rfl ?_); refine Kd.R_lit (Kd.int .i64) _ 3 ?hg (N := 15) ?hd (xs := ([0, 1, 2, 22, 41, (-1), 42, t322] : List Int)) (inner := [.int .i64 0, .int .i64 1, .int .i64 2, .int .i64 22, .int .i64 41, .int .i64 (-1), .int .i64 42, .int .i64 t322]) (ok := fun _ => True) (okp := fun _ => True) ?hr ?hp (fun _ hk => hk) trivial (Below.refl _ _) (Nat.le_refl _) (by simp) ?_; (case hd => rfl); (case hg => rfl); (case hr => first | (go_simp; done) | (go_simp; rfl)); (case hp => exact (Reps.one (show Kd.M (Kd.int .i64) _ _ _ 0 [.int .i64 0] from rfl) (Reps.one (show Kd.M (Kd.int .i64) _ _ _ 1 [.int .i64 1] from rfl) (Reps.one (show Kd.M (Kd.int .i64) _ _ _ 2 [.int .i64 2] from rfl) (Reps.one (show Kd.M (Kd.int .i64) _ _ _ 22 [.int .i64 22] from rfl) (Reps.one (show Kd.M (Kd.int .i64) _ _ _ 41 [.int .i64 41] from rfl) (Reps.one (show Kd.M (Kd.int .i64) _ _ _ (-1) [.int .i64 (-1)] from rfl) (Reps.one (show Kd.M (Kd.int .i64) _ _ _ 42 [.int .i64 42] from rfl) (Reps.one (show Kd.M (Kd.int .i64) _ _ _ t322 [.int .i64 t322] from rfl) (Reps.none _ _)))))))))); intro v325 w42 ho43 hb hg_ hnew_; clear hg_ hnew_; (first | rw [← Ny324.out] at ho43 | (simp only [Int.reduceToNat] at ho43; rw [← Ny324.out] at ho43)); have n0_ := Aside0.mk (Kd.zR (qw_ HO314.out) hb); have n1_ := Aside0.mk (Kd.zB (rw_ HO317.out) hb); have n2_ := Aside0.mk (Kd.zJ ho43 (qP (by repeat (first | (with_reducible first | exact HB.out | apply qG | apply qD | apply qF | refine qC ?_ (IsS83.ge HI311.out) | refine qC ?_ GE308.out | refine qC ?_ GE321.out) | exact HB.out)))); have n3_ := Aside0.mk (qL (g := gb308) (o := .cells #[.slice none 0 0, .slice none 0 0, .int .i64 0, .int .i64 0] 26 (0, 0)) (bw_ BK308.out) hb); have n4_ := Aside0.mk (IsS83.below (by repeat (first | (with_reducible first | exact HI311.out | apply IsS83.alloc | apply IsS83.drewN | apply IsS83.drew | apply IsS83.set_1 | refine IsS83.far ?_ NB311_308.out _ | refine IsS83.far ?_ NB311_321.out _) | exact HI311.out)) hb); have n5_ := Aside0.mk (qL (g := gb321) (o := .cells #[.slice Ao36 t312.length co36, .slice Ao40 t315.length co40, .int .i64 t318, .int .i64 t319] 26 (0, 0)) (bw_ BK321.out) hb); have n6_ := Aside0.mk (qQ (by repeat (first | (with_reducible first | exact HB.out | apply qG | apply qD | apply qF | refine qC ?_ (IsS83.ge HI311.out) | refine qC ?_ GE308.out | refine qC ?_ GE321.out) | exact HB.out)) hb); clear HO314; clear HO317; clear BK308; clear HI311; clear BK321; clear HB; have HO314 := n0_; have HO317 := n1_; have HO326 := n2_; have BK308 := n3_; have HI311 := n4_; have BK321 := n5_; have HB := n6_; clear n0_ n1_ n2_ n3_ n4_ n5_ n6_; clear hb ho43; obtain ⟨Ao44, co44, eo44⟩ := Kd.zD HO326.out; subst eo44) | ((with_reducible refine qX (f := 40) rfl ?_); refine zM (some 16) rfl rfl Try.func40 (by kernel_rfl) rfl #[.pointer (some ⟨g311, 0, none⟩), .slice Ao44 y324.length co44] rfl (by (try simp only [List.map_toArray, List.map_cons, List.map_nil]); first | done | rfl | (simp only [List.length_drop, List.length_take]; rfl)) ?_; (with_reducible refine (spec_l1Rd_one.calls k g311 t309 t323 _ _ y324 t327 t328 w _ ?side1 ?side2 ?side3 ?side4 ?side5 A5.out).mono ?_); (case side1 => repeat (first | (with_reducible first | exact HI311.out | apply IsS83.alloc | apply IsS83.drewN | apply IsS83.drew | apply IsS83.set_1 | refine IsS83.far ?_ NB311_308.out _ | refine IsS83.far ?_ NB311_321.out _) | exact HI311.out)); (case side2 => repeat (first | (with_reducible first | exact HB.out | apply qG | apply qD | apply qF | refine qC ?_ (IsS83.ge HI311.out) | refine qC ?_ GE308.out | refine qC ?_ GE321.out) | exact HB.out)); (case side3 => repeat (first | exact (Kd.zC HO326.out).2.2 | (with_reducible refine Kd.zF ?_ _) | (with_reducible refine Kd.zG ?_ _) | (with_reducible refine Kd.zL ?_))); (case side4 => exact (Kd.zC HO326.out).2.1); (case side5 => exact far_slice (IsS83.own_ne HI311.out HO326.out (by decide))); rintro e w45 ⟨rfl, hi, hb, hk⟩; refine ⟨_, rfl, ?_⟩; have n0_ := Aside0.mk (KeepBut.blk hk (g' := gb308) (o := .cells #[.slice none 0 0, .slice none 0 0, .int .i64 0, .int .i64 0] 26 (0, 0)) (bw_ BK308.out) NB308_311.out (by simp)); have n1_ := Aside0.mk (Kd.zU (Kd.Q_keep (IsS83.apartQ (show IsS83 w _ g311 t309 t323 from by repeat (first | (with_reducible first | exact HI311.out | apply IsS83.alloc | apply IsS83.drewN | apply IsS83.drew | apply IsS83.set_1 | refine IsS83.far ?_ NB311_308.out _ | refine IsS83.far ?_ NB311_321.out _) | exact HI311.out)) (qw_ HO314.out) (by decide)) hk (fun _ h => h.2)) (fun _ h => h.1)); have n2_ := Aside0.mk (Kd.qS (Kd.zN (IsS83.apart (show IsS83 w _ g311 t309 t323 from by repeat (first | (with_reducible first | exact HI311.out | apply IsS83.alloc | apply IsS83.drewN | apply IsS83.drew | apply IsS83.set_1 | refine IsS83.far ?_ NB311_308.out _ | refine IsS83.far ?_ NB311_321.out _) | exact HI311.out)) (rw_ HO317.out) (by decide)) hk (fun _ h => h.2)) (fun _ h => h.1)); have n3_ := Aside0.mk (KeepBut.blk hk (g' := gb321) (o := .cells #[.slice Ao36 t312.length co36, .slice Ao40 t315.length co40, .int .i64 t318, .int .i64 t319] 26 (0, 0)) (bw_ BK321.out) NB321_311.out (by simp)); have n4_ := Aside0.mk (Kd.qS (Kd.zN (IsS83.apart (show IsS83 w _ g311 t309 t323 from by repeat (first | (with_reducible first | exact HI311.out | apply IsS83.alloc | apply IsS83.drewN | apply IsS83.drew | apply IsS83.set_1 | refine IsS83.far ?_ NB311_308.out _ | refine IsS83.far ?_ NB311_321.out _) | exact HI311.out)) (rw_ HO326.out) (by decide)) hk (fun _ h => h.2)) (fun _ h => h.1)); have n5_ := Aside0.mk (hb); have n6_ := Aside0.mk (hi); clear BK308; clear HO314; clear HO317; clear BK321; clear HO326; clear HB; clear HI311; have BK308 := n0_; have HO314 := n1_; have HO317 := n2_; have BK321 := n3_; have HO326 := n4_; have HB := n5_; have HI311 := n6_; clear n0_ n1_ n2_ n3_ n4_ n5_ n6_; (try clear hb); (try clear hb2); (try clear hk); (try clear hi)) | ((with_reducible refine qX (f := 34) rfl ?_); refine zM (some 18) rfl rfl Try.func34 (by kernel_rfl) rfl #[.pointer (some ⟨g311, 0, none⟩), .int .i64 20] rfl (by (try simp only [List.map_toArray, List.map_cons, List.map_nil]); first | done | rfl | (simp only [List.length_drop, List.length_take]; rfl)) ?_; (with_reducible refine (spec_l1Rd_pick.calls k g311 t309 t328 20 t329 t330 w _ ?side1 ?side2 A6.out).mono ?_); (case side1 => repeat (first | (with_reducible first | exact HI311.out | apply IsS83.alloc | apply IsS83.drewN | apply IsS83.drew | apply IsS83.set_1 | refine IsS83.far ?_ NB311_308.out _ | refine IsS83.far ?_ NB311_321.out _) | exact HI311.out)); (case side2 => repeat (first | (with_reducible first | exact HB.out | apply qG | apply qD | apply qF | refine qC ?_ (IsS83.ge HI311.out) | refine qC ?_ GE308.out | refine qC ?_ GE321.out) | exact HB.out)); rintro e w46 ⟨rfl, hi, hb, hk⟩; refine ⟨_, rfl, ?_⟩; have n0_ := Aside0.mk (KeepBut.blk hk (g' := gb308) (o := .cells #[.slice none 0 0, .slice none 0 0, .int .i64 0, .int .i64 0] 26 (0, 0)) (bw_ BK308.out) NB308_311.out (by simp)); have n1_ := Aside0.mk (Kd.zU (Kd.Q_keep (IsS83.apartQ (show IsS83 w _ g311 t309 t328 from by repeat (first | (with_reducible first | exact HI311.out | apply IsS83.alloc | apply IsS83.drewN | apply IsS83.drew | apply IsS83.set_1 | refine IsS83.far ?_ NB311_308.out _ | refine IsS83.far ?_ NB311_321.out _) | exact HI311.out)) (qw_ HO314.out) (by decide)) hk (fun _ h => h.2)) (fun _ h => h.1)); have n2_ := Aside0.mk (Kd.qS (Kd.zN (IsS83.apart (show IsS83 w _ g311 t309 t328 from by repeat (first | (with_reducible first | exact HI311.out | apply IsS83.alloc | apply IsS83.drewN | apply IsS83.drew | apply IsS83.set_1 | refine IsS83.far ?_ NB311_308.out _ | refine IsS83.far ?_ NB311_321.out _) | exact HI311.out)) (rw_ HO317.out) (by decide)) hk (fun _ h => h.2)) (fun _ h => h.1)); have n3_ := Aside0.mk (KeepBut.blk hk (g' := gb321) (o := .cells #[.slice Ao36 t312.length co36, .slice Ao40 t315.length co40, .int .i64 t318, .int .i64 t319] 26 (0, 0)) (bw_ BK321.out) NB321_311.out (by simp)); have n4_ := Aside0.mk (Kd.qS (Kd.zN (IsS83.apart (show IsS83 w _ g311 t309 t328 from by repeat (first | (with_reducible first | exact HI311.out | apply IsS83.alloc | apply IsS83.drewN | apply IsS83.drew | apply IsS83.set_1 | refine IsS83.far ?_ NB311_308.out _ | refine IsS83.far ?_ NB311_321.out _) | exact HI311.out)) (rw_ HO326.out) (by decide)) hk (fun _ h => h.2)) (fun _ h => h.1)); have n5_ := Aside0.mk (hb); have n6_ := Aside0.mk (hi); clear BK308; clear HO314; clear HO317; clear BK321; clear HO326; clear HB; clear HI311; have BK308 := n0_; have HO314 := n1_; have HO317 := n2_; have BK321 := n3_; have HO326 := n4_; have HB := n5_; have HI311 := n6_; clear n0_ n1_ n2_ n3_ n4_ n5_ n6_; (try clear hb); (try clear hb2); (try clear hk); (try clear hi)))
    have n0_ := Aside0.mk (Kd.zP HO314.out)
    have n1_ := Aside0.mk (Kd.qV HO317.out)
    have n2_ := Aside0.mk (Kd.qV HO326.out)
    have n3_ := Aside0.mk (qI BK308.out)
    have n4_ := Aside0.mk (qI BK321.out)
    have n5_ := Aside0.mk (IsS83.drew HI311.out)
    have n6_ := Aside0.mk (qF HB.out)
    clear HO314
    clear HO317
    clear HO326
    clear BK308
    clear BK321
    clear HI311
    clear HB
    have HO314 := n0_
    have HO317 := n1_
    have HO326 := n2_
    have BK308 := n3_
    have BK321 := n4_
    have HI311 := n5_
    have HB := n6_
    clear n0_ n1_ n2_ n3_ n4_ n5_ n6_
    refine start_ (n := 7) (S := fun w' => w'.cell? ⟨gb321, 0, none⟩ = some (.slice Ao36 t312.length co36) ∧ w'.cell? ⟨gb321, 1, none⟩ = some (.slice Ao40 t315.length co40) ∧ w'.cell? ⟨gb321, 2, none⟩ = some (.int .i64 t318) ∧ w'.cell? ⟨gb321, 3, none⟩ = some (.int .i64 t319)) (ds := []) #[false, false, false, false, false, false, false] (by kernel_rfl) rfl rfl ⟨(qA BK321.out 0).trans rfl, (qA BK321.out 1).trans rfl, (qA BK321.out 2).trans rfl, (qA BK321.out 3).trans rfl⟩ (fun hHeld => ?_)
    generalize w46.drew = w47 at HO314 HO317 HO326 BK308 BK321 HI311 HB hHeld ⊢
    refine pure_ (i := 1) (N := some 27) (v := ?_) (a' := ?_) #[false, true, false, false, false, false, false] rfl rfl (by kernel_rfl) (fun _ _ _ h => h) (Or.inl ⟨by rfl, ?_⟩) ?_ ?_
    rotate_left
    · intro w'
      go_simp
      with_reducible rfl
    rotate_left
    · simp only [Act.put, List.setIfInBounds_toArray, List.set_cons_zero, List.set_cons_succ, i64_w, i32_w]
      rfl
    refine pure_ (i := 2) (N := some 28) (v := ?_) (a' := ?_) #[false, true, true, false, false, false, false] rfl rfl (by kernel_rfl) (fun _ _ _ h => h) (Or.inl ⟨by rfl, ?_⟩) ?_ ?_
    rotate_left
    · intro w'
      go_simp
      with_reducible rfl
    rotate_left
    · simp only [Act.put, List.setIfInBounds_toArray, List.set_cons_zero, List.set_cons_succ, i64_w, i32_w]
      rfl
    refine take_ (i := 0) (N := some 26) (v := ?_) (a' := ?_) #[true, true, true, false, false, false, false] rfl rfl (by kernel_rfl) (fun _ _ _ h => h) (Or.inl ⟨by rfl, ?_⟩) hHeld ?_ ?_
    rotate_left
    · rintro w' ⟨s0, s1, s2, s3⟩
      go_simp
      with_reducible rfl
    rotate_left
    · simp only [Act.put, List.setIfInBounds_toArray, List.set_cons_zero, List.set_cons_succ, i64_w, i32_w]
      rfl
    refine one_ (i := 3) (N := some 29) #[true, true, true, true, false, false, false] rfl rfl (by kernel_rfl) (by decide) (fun K hK => ?_)
    refine goes_ Try.func42 (by kernel_rfl) rfl #[.pointer (some ⟨g311, 0, none⟩)] (by rfl) rfl rfl (by (try simp only [List.map_toArray, List.map_cons, List.map_nil]); first | done | rfl | (simp only [List.length_drop, List.length_take]; rfl)) ?_
    with_reducible refine (spec_l15PageText.calls k g311 t309 t330 t334 t335 w _ ?side1 ?side2 A31.out).mono ?_
    (case side1 => repeat (first | (with_reducible first | exact HI311.out | apply IsS83.alloc | apply IsS83.drewN | apply IsS83.drew | apply IsS83.set_1 | refine IsS83.far ?_ NB311_308.out _ | refine IsS83.far ?_ NB311_321.out _) | exact HI311.out))
    (case side2 => repeat (first | (with_reducible first | exact HB.out | apply qG | apply qD | apply qF | refine qC ?_ (IsS83.ge HI311.out) | refine qC ?_ GE308.out | refine qC ?_ GE321.out) | exact HB.out))
    rintro e w48 ⟨rfl, hi, hb, hk⟩
    refine ⟨_, rfl, ?_⟩
    have n0_ := Aside0.mk (KeepBut.blk hk (g' := gb308) (o := .cells #[.slice none 0 0, .slice none 0 0, .int .i64 0, .int .i64 0] 26 (0, 0)) (bw_ BK308.out) NB308_311.out (by simp))
    have n1_ := Aside0.mk (Kd.zU (Kd.Q_keep (IsS83.apartQ (show IsS83 w _ g311 t309 t330 from by repeat (first | (with_reducible first | exact HI311.out | apply IsS83.alloc | apply IsS83.drewN | apply IsS83.drew | apply IsS83.set_1 | refine IsS83.far ?_ NB311_308.out _ | refine IsS83.far ?_ NB311_321.out _) | exact HI311.out)) (qw_ HO314.out) (by decide)) hk (fun _ h => h.2)) (fun _ h => h.1))
    have n2_ := Aside0.mk (Kd.qS (Kd.zN (IsS83.apart (show IsS83 w _ g311 t309 t330 from by repeat (first | (with_reducible first | exact HI311.out | apply IsS83.alloc | apply IsS83.drewN | apply IsS83.drew | apply IsS83.set_1 | refine IsS83.far ?_ NB311_308.out _ | refine IsS83.far ?_ NB311_321.out _) | exact HI311.out)) (rw_ HO317.out) (by decide)) hk (fun _ h => h.2)) (fun _ h => h.1))
    have n3_ := Aside0.mk (KeepBut.blk hk (g' := gb321) (o := .cells #[.slice Ao36 t312.length co36, .slice Ao40 t315.length co40, .int .i64 t318, .int .i64 t319] 26 (0, 0)) (bw_ BK321.out) NB321_311.out (by simp))
    have n4_ := Aside0.mk (Kd.qS (Kd.zN (IsS83.apart (show IsS83 w _ g311 t309 t330 from by repeat (first | (with_reducible first | exact HI311.out | apply IsS83.alloc | apply IsS83.drewN | apply IsS83.drew | apply IsS83.set_1 | refine IsS83.far ?_ NB311_308.out _ | refine IsS83.far ?_ NB311_321.out _) | exact HI311.out)) (rw_ HO326.out) (by decide)) hk (fun _ h => h.2)) (fun _ h => h.1))
    have n5_ := Aside0.mk (hb)
    have n6_ := Aside0.mk (hi)
    clear BK308
    clear HO314
    clear HO317
    clear BK321
    clear HO326
    clear HB
    clear HI311
    have BK308 := n0_
    have HO314 := n1_
    have HO317 := n2_
    have BK321 := n3_
    have HO326 := n4_
    have HB := n5_
    have HI311 := n6_
    clear n0_ n1_ n2_ n3_ n4_ n5_ n6_
    (try clear hb)
    (try clear hb2)
    (try clear hk)
    (try clear hi)
    refine hK.out _ _ ⟨(qA BK321.out 0).trans rfl, (qA BK321.out 1).trans rfl, (qA BK321.out 2).trans rfl, (qA BK321.out 3).trans rfl⟩ (fun hHeld => ?_)
    clear hK K
    refine norm_ (a' := ?_) ?_ ?_
    rotate_left
    · show Act.put _ (some 29) _ = _
      simp only [Act.put, List.setIfInBounds_toArray, List.set_cons_zero, List.set_cons_succ, i64_w, i32_w]
      rfl
    refine one_ (i := 4) (N := none) #[true, true, true, true, true, false, false] rfl rfl (by kernel_rfl) (by decide) (fun K hK => ?_)
    have hs49 : w48.cell? ⟨gb308, 0, none⟩ = some (.slice none 0 0) := (qA BK308.out 0).trans rfl
    have hfs49 := qB BK308.out 0
    have hns49_1 := NB321_308.out
    have hms49_1 := NB308_321.out
    have hs50 : w48.cell? ⟨gb308, 1, none⟩ = some (.slice none 0 0) := (qA BK308.out 1).trans rfl
    have hfs50 := qB BK308.out 1
    have hns50_1 := NB321_308.out
    have hms50_1 := NB308_321.out
    have hs51 : w48.cell? ⟨gb308, 2, none⟩ = some (.int .i64 0) := (qA BK308.out 2).trans rfl
    have hfs51 := qB BK308.out 2
    have hns51_1 := NB321_308.out
    have hms51_1 := NB308_321.out
    have hs52 : w48.cell? ⟨gb308, 3, none⟩ = some (.int .i64 0) := (qA BK308.out 3).trans rfl
    have hfs52 := qB BK308.out 3
    have hns52_1 := NB321_308.out
    have hms52_1 := NB308_321.out
    refine skip_ (w1 := ?_) (by rfl) rfl ?_ ?_
    rotate_left
    · go_simp
      rfl
    refine hK.out _ _ ⟨((zK (p := ⟨gb308, _, none⟩) NB321_308.out _).trans (((zK (p := ⟨gb308, _, none⟩) NB321_308.out _).trans (((zK (p := ⟨gb308, _, none⟩) NB321_308.out _).trans (((zK (p := ⟨gb308, _, none⟩) NB321_308.out _).trans (hHeld.1)))))))), ((zK (p := ⟨gb308, _, none⟩) NB321_308.out _).trans (((zK (p := ⟨gb308, _, none⟩) NB321_308.out _).trans (((zK (p := ⟨gb308, _, none⟩) NB321_308.out _).trans (((zK (p := ⟨gb308, _, none⟩) NB321_308.out _).trans (hHeld.2.1)))))))), ((zK (p := ⟨gb308, _, none⟩) NB321_308.out _).trans (((zK (p := ⟨gb308, _, none⟩) NB321_308.out _).trans (((zK (p := ⟨gb308, _, none⟩) NB321_308.out _).trans (((zK (p := ⟨gb308, _, none⟩) NB321_308.out _).trans (hHeld.2.2.1)))))))), ((zK (p := ⟨gb308, _, none⟩) NB321_308.out _).trans (((zK (p := ⟨gb308, _, none⟩) NB321_308.out _).trans (((zK (p := ⟨gb308, _, none⟩) NB321_308.out _).trans (((zK (p := ⟨gb308, _, none⟩) NB321_308.out _).trans (hHeld.2.2.2))))))))⟩ (fun hHeld => ?_)
    clear hK K
    refine pure_ (i := 5) (N := some 3) (v := ?_) (a' := ?_) #[true, true, true, true, true, true, false] rfl rfl (by kernel_rfl) (fun _ _ _ h => h) (Or.inl ⟨by rfl, ?_⟩) ?_ ?_
    rotate_left
    · intro w'
      go_simp
      with_reducible rfl
    rotate_left
    · simp only [Act.put, List.setIfInBounds_toArray, List.set_cons_zero, List.set_cons_succ, i64_w, i32_w]
      rfl
    refine pure_ (i := 6) (N := some 4) (v := ?_) (a' := ?_) #[true, true, true, true, true, true, true] rfl rfl (by kernel_rfl) (fun _ _ _ h => h) (Or.inl ⟨by rfl, ?_⟩) ?_ ?_
    rotate_left
    · intro w'
      go_simp
      with_reducible rfl
    rotate_left
    · simp only [Act.put, List.setIfInBounds_toArray, List.set_cons_zero, List.set_cons_succ, i64_w, i32_w]
      rfl
    refine done_ (by kernel_rfl) ?_
    try go_wp2
    refine bodyPost_ret (results_ctt rfl _ _ gb308 26 #[.slice Ao36 t312.length co36, .slice Ao40 t315.length co40, .int .i64 t318, .int .i64 t319] (0, 0) _ rfl (by (with_reducible repeat (first | refine qH ?_ _ | refine qI ?_ | refine qE ?_ _)); refine qN (cs := #[.slice Ao36 t312.length co36, .slice Ao40 t315.length co40, .int .i64 t318, .int .i64 0]) ?_ 3 _ rfl; (with_reducible repeat (first | refine qH ?_ _ | refine qI ?_ | refine qE ?_ _)); refine qN (cs := #[.slice Ao36 t312.length co36, .slice Ao40 t315.length co40, .int .i64 0, .int .i64 0]) ?_ 2 _ rfl; (with_reducible repeat (first | refine qH ?_ _ | refine qI ?_ | refine qE ?_ _)); refine qN (cs := #[.slice Ao36 t312.length co36, .slice none 0 0, .int .i64 0, .int .i64 0]) ?_ 1 _ rfl; (with_reducible repeat (first | refine qH ?_ _ | refine qI ?_ | refine qE ?_ _)); refine qN (cs := #[.slice none 0 0, .slice none 0 0, .int .i64 0, .int .i64 0]) ?_ 0 _ rfl; (with_reducible repeat (first | refine qH ?_ _ | refine qI ?_ | refine qE ?_ _)); exact BK308.out) Try.underlying26 rfl (by kernel_rfl)) rfl ?_
    exact ⟨_, _, by first | rfl | (simp [errW_none, errW_some] <;> rfl) | (simp [*, errW_none, errW_some] <;> rfl), by (with_reducible repeat (first | apply Kd.zS | apply Kd.zT | apply Kd.zP)); exact Kd.zU (Kd.Q_far (p := ⟨gb308, 3, none⟩) (Kd.Q_far (p := ⟨gb308, 2, none⟩) (Kd.Q_far (p := ⟨gb308, 1, none⟩) (Kd.Q_far (p := ⟨gb308, 0, none⟩) (Kd.zZ HO314.out BK308.out (by decide)) (fun _ hk => hk.2) (.slice Ao36 t312.length co36)) (fun _ hk => hk.2) (.slice Ao40 t315.length co40)) (fun _ hk => hk.2) (.int .i64 t318)) (fun _ hk => hk.2) (.int .i64 t319)) (fun _ hk => trivial), by (with_reducible repeat (first | apply Kd.qU | apply Kd.qT | apply Kd.qV)); exact Kd.qS (Kd.R_far (p := ⟨gb308, 3, none⟩) (Kd.R_far (p := ⟨gb308, 2, none⟩) (Kd.R_far (p := ⟨gb308, 1, none⟩) (Kd.R_far (p := ⟨gb308, 0, none⟩) (Kd.qW HO317.out BK308.out (by decide)) (fun _ hk => hk.2) (.slice Ao36 t312.length co36)) (fun _ hk => hk.2) (.slice Ao40 t315.length co40)) (fun _ hk => hk.2) (.int .i64 t318)) (fun _ hk => hk.2) (.int .i64 t319)) (fun _ hk => trivial), by repeat (first | (with_reducible first | exact HB.out | apply qG | apply qD | apply qF | refine qC ?_ (IsS83.ge HI311.out) | refine qC ?_ GE308.out | refine qC ?_ GE321.out) | exact HB.out)⟩

end Go.Proofs.Ytepihebkdnmppaa.Aj
