/- Walks of the seat's functions, written by a program of this session (xprint.py) with the kit's printer: each call comes to just what its Lean function says. -/
import Derived.Test.YtepihebkdnmppaaxAkAk0
import Derived.Test.YtepihebkdnmppaaxAkAk5
import Derived.Test.YtepihebkdnmppaaxAkAk7
namespace Go.Proofs.Ytepihebkdnmppaa.Ak
open Go.RowKit Go.Proofs.YtepihebkdnmppaaV.PrintWords Go.Proofs.YtepihebkdnmppaaV.PrintLast Go.Proofs.YtepihebkdnmppaaV.PrintMore
attribute [local go_sem] max2_int min2_int max_two min_two xD xE max_four min_four   -- for this text's walks alone
attribute [local go_sem high] World.zQ
set_option linter.unusedVariables false
set_option linter.unusedSimpArgs false

/-! ### spec_l15AnyDisk: function 33 -/
def spec_l15AnyDisk.l0 : Nat → List Int → Int → List ByteArray → List (S70) → Int → Int → Option (List ByteArray × (List (S70)) × Int × Int × Int)
  | 0, _, _, _, _, _, _ => none
  | k + 1, x1000, x1001, x294000, x294001, x294002, x294003 => (spec_l1Rd_pick.f k x1000 x1001 2).bind fun bt309 => (if (x294001.length : Int) < (wrap64 (100 + bt309.1)) then (if x294001.length < 5864062014805 then (spec_l15AnyDisk.l0 k x1000 bt309.2 x294000 (x294001 ++ [(⟨5, (⟨#[119]⟩ : ByteArray)⟩ : S70)]) x294002 x294003) else (none)) else (some (x294000, x294001, x294002, x294003, bt309.2)))
def spec_l15AnyDisk.f (k : Nat) (s0_0 : List Int) (s0_1 : Int) : Option (List ByteArray × (List (S70)) × Int × Int × Int) := (spec_l15Disk.f k s0_0 s0_1).bind fun bt284 => ((spec_l1Rd_pick.f k s0_0 bt284.2.2.2.2 24).bind fun bt294 => (if bt294.1 = 0 then (if 1 ≤ (bt284.1.length : Int) then (some ((bt284.1.drop (1 : Int).toNat), bt284.2.1, bt284.2.2.1, bt284.2.2.2.1, bt294.2)) else (none)) else (if bt294.1 = 1 then (some (bt284.1, bt284.2.1, (-2), bt284.2.2.2.1, bt294.2)) else (if bt294.1 = 2 then ((spec_l1Rd_one.f k s0_0 bt294.2 (([(-1), 42] : List Int))).bind fun bt302 => (if bt284.2.1.length < 5864062014805 then (some (bt284.1, (bt284.2.1 ++ [(⟨bt302.1, (⟨#[]⟩ : ByteArray)⟩ : S70)]), bt284.2.2.1, bt284.2.2.2.1, bt302.2)) else (none))) else (if bt294.1 = 3 then ((spec_l1Many.f k (⟨#[99]⟩ : ByteArray) 1201).bind fun t307 => (if 0 < (bt284.1.length : Int) then (some ((bt284.1.set (0 : Int).toNat t307), bt284.2.1, bt284.2.2.1, bt284.2.2.2.1, bt294.2)) else (none))) else (if bt294.1 = 4 then (some (bt284.1, bt284.2.1, bt284.2.2.1, (-2), bt294.2)) else (if bt294.1 = 5 then (spec_l15AnyDisk.l0 k s0_0 bt294.2 bt284.1 bt284.2.1 bt284.2.2.1 bt284.2.2.2.1) else (some (bt284.1, bt284.2.1, bt284.2.2.1, bt284.2.2.2.1, bt294.2)))))))))
theorem spec_l15AnyDisk.mono_l : ∀ k, (∀ y0 y1 y2 y3 y4 y5, LeO (spec_l15AnyDisk.l0 k y0 y1 y2 y3 y4 y5) (spec_l15AnyDisk.l0 (k + 1) y0 y1 y2 y3 y4 y5))
  | 0 => fun _ _ _ _ _ _ r h => by simp [spec_l15AnyDisk.l0] at h
  | k + 1 => by
    have ih0 := spec_l15AnyDisk.mono_l k
    · intro y0 y1 y2 y3 y4 y5
      unfold spec_l15AnyDisk.l0
      repeat' first
      | (with_reducible exact ih0 _ _ _ _ _ _)
      | (with_reducible exact spec_l15Disk.mono _ _ _)
      | (with_reducible exact spec_l1Many.mono _ _ _)
      | (with_reducible exact spec_l1Rd_one.mono _ _ _ _)
      | (with_reducible exact spec_l1Rd_pick.mono _ _ _ _)
      | (with_reducible exact LeO.refl _)
      | (with_reducible exact LeO.none _)
      | (with_reducible refine LeO.ite ?_ ?_)
      | (with_reducible refine LeO.bind ?_ (fun _ => ?_))
      | exact ih0 _ _ _ _ _ _
      | exact spec_l15Disk.mono _ _ _
      | exact spec_l1Many.mono _ _ _
      | exact spec_l1Rd_one.mono _ _ _ _
      | exact spec_l1Rd_pick.mono _ _ _ _
      | exact LeO.none _
      | refine LeO.ite ?_ ?_
      | refine LeO.bind ?_ (fun _ => ?_)
theorem spec_l15AnyDisk.mono : ∀ a0 a1 k, LeO (spec_l15AnyDisk.f k a0 a1) (spec_l15AnyDisk.f (k + 1) a0 a1) := by
  intro a0 a1 k
  have ih0 := spec_l15AnyDisk.mono_l k
  unfold spec_l15AnyDisk.f
  repeat' first
      | (with_reducible exact ih0 _ _ _ _ _ _)
      | (with_reducible exact spec_l15Disk.mono _ _ _)
      | (with_reducible exact spec_l1Many.mono _ _ _)
      | (with_reducible exact spec_l1Rd_one.mono _ _ _ _)
      | (with_reducible exact spec_l1Rd_pick.mono _ _ _ _)
      | (with_reducible exact LeO.refl _)
      | (with_reducible exact LeO.none _)
      | (with_reducible refine LeO.ite ?_ ?_)
      | (with_reducible refine LeO.bind ?_ (fun _ => ?_))
      | exact ih0 _ _ _ _ _ _
      | exact spec_l15Disk.mono _ _ _
      | exact spec_l1Many.mono _ _ _
      | exact spec_l1Rd_one.mono _ _ _ _
      | exact spec_l1Rd_pick.mono _ _ _ _
      | exact LeO.none _
      | refine LeO.ite ?_ ?_
      | refine LeO.bind ?_ (fun _ => ?_)
def spec_l15AnyDisk.T8 : Bool × List (List Nat × List Nat) := (true, [([], []), ([0], [0]), ([], []), ([], []), ([2, 3], [2, 3]), ([4], [4]), ([5], [5]), ([1, 6, 4], [1, 6]), ([0, 1, 2, 3, 4, 5, 6, 7], []), ([8, 7, 7, 0, 1, 2, 3, 4, 5, 6, 7], [7, 8])])
def spec_l15AnyDisk.B8 : List Nat := [0, 1, 0, 0, 12, 28, 60, 127, 255, 511]
theorem spec_l15AnyDisk.tab8 : rtab .any (opsOf Try.f33 8) = spec_l15AnyDisk.T8 := by kernel_rfl
theorem spec_l15AnyDisk.bits8 : waitsOk spec_l15AnyDisk.T8.2 spec_l15AnyDisk.B8 = true := by kernel_rfl
set_option maxHeartbeats 8000000 in
set_option maxRecDepth 100000 in
theorem spec_l15AnyDisk.calls (k : Nat) (g : Nat) (s0_0 : List Int) (s0_1 : Int) (r1 : List ByteArray) (r2 : List (S70)) (r3 : Int) (r4 : Int) (r5 : Int) (w0 w : World) (hI : IsS83 w0 w g s0_0 s0_1) (hB : Below w0.heap.size w0 w) (h : spec_l15AnyDisk.f k s0_0 s0_1 = some (r1, r2, r3, r4, r5)) :
    Calls Try.prog 33 #[.pointer (some ⟨g, 0, none⟩)] w fun e w' => ∃ v0_ v1_ : Value, e = .returned (.agg #[v0_, v1_, .int .i64 r3, .int .i64 r4]) ∧ Kd.Q Kd.string 9 w' w.heap.size (fun _ => True) v0_ r1 ∧ Kd.R k70 70 w' w.heap.size (fun _ => True) v1_ r2 ∧ IsS83 w0 w' g s0_0 r5 ∧ Below w0.heap.size w0 w' ∧ KeepBut w w' g none := by
  have hu26 := Try.underlying26
  have hu70 := Try.underlying70
  have HI0 := Aside0.mk hI
  have HK := Aside0.mk (KeepBut.refl w g none)
  have HL := Aside0.mk hB.size
  clear hI
  have HW0 := Aside0.mk hB.size
  have HB := Aside0.mk hB
  clear hB
  have H : ((spec_l15Disk.f k s0_0 s0_1).bind fun bt284 => ((spec_l1Rd_pick.f k s0_0 bt284.2.2.2.2 24).bind fun bt294 => (if bt294.1 = 0 then (if 1 ≤ (bt284.1.length : Int) then (some ((bt284.1.drop (1 : Int).toNat), bt284.2.1, bt284.2.2.1, bt284.2.2.2.1, bt294.2)) else (none)) else (if bt294.1 = 1 then (some (bt284.1, bt284.2.1, (-2), bt284.2.2.2.1, bt294.2)) else (if bt294.1 = 2 then ((spec_l1Rd_one.f k s0_0 bt294.2 (([(-1), 42] : List Int))).bind fun bt302 => (if bt284.2.1.length < 5864062014805 then (some (bt284.1, (bt284.2.1 ++ [(⟨bt302.1, (⟨#[]⟩ : ByteArray)⟩ : S70)]), bt284.2.2.1, bt284.2.2.2.1, bt302.2)) else (none))) else (if bt294.1 = 3 then ((spec_l1Many.f k (⟨#[99]⟩ : ByteArray) 1201).bind fun t307 => (if 0 < (bt284.1.length : Int) then (some ((bt284.1.set (0 : Int).toNat t307), bt284.2.1, bt284.2.2.1, bt284.2.2.2.1, bt294.2)) else (none))) else (if bt294.1 = 4 then (some (bt284.1, bt284.2.1, bt284.2.2.1, (-2), bt294.2)) else (if bt294.1 = 5 then (spec_l15AnyDisk.l0 k s0_0 bt294.2 bt284.1 bt284.2.1 bt284.2.2.1 bt284.2.2.2.1) else (some (bt284.1, bt284.2.1, bt284.2.2.1, bt284.2.2.2.1, bt294.2)))))))))) = some (r1, r2, r3, r4, r5) := h
  clear h
  replace H := Option.bind_eq_some_iff.mp H
  obtain ⟨⟨t284, t287, t290, t291, t292⟩, A20, H⟩ := H
  replace H : ((spec_l1Rd_pick.f k s0_0 t292 24).bind fun bt294 => (if bt294.1 = 0 then (if 1 ≤ (t284.length : Int) then (some ((t284.drop (1 : Int).toNat), t287, t290, t291, bt294.2)) else (none)) else (if bt294.1 = 1 then (some (t284, t287, (-2), t291, bt294.2)) else (if bt294.1 = 2 then ((spec_l1Rd_one.f k s0_0 bt294.2 (([(-1), 42] : List Int))).bind fun bt302 => (if t287.length < 5864062014805 then (some (t284, (t287 ++ [(⟨bt302.1, (⟨#[]⟩ : ByteArray)⟩ : S70)]), t290, t291, bt302.2)) else (none))) else (if bt294.1 = 3 then ((spec_l1Many.f k (⟨#[99]⟩ : ByteArray) 1201).bind fun t307 => (if 0 < (t284.length : Int) then (some ((t284.set (0 : Int).toNat t307), t287, t290, t291, bt294.2)) else (none))) else (if bt294.1 = 4 then (some (t284, t287, t290, (-2), bt294.2)) else (if bt294.1 = 5 then (spec_l15AnyDisk.l0 k s0_0 bt294.2 t284 t287 t290 t291) else (some (t284, t287, t290, t291, bt294.2))))))))) = some (r1, r2, r3, r4, r5) := H
  have A2 := Aside0.mk A20
  clear A20
  replace H := Option.bind_eq_some_iff.mp H
  obtain ⟨⟨t294, t295⟩, A30, H⟩ := H
  replace H : (if t294 = 0 then (if 1 ≤ (t284.length : Int) then (some ((t284.drop (1 : Int).toNat), t287, t290, t291, t295)) else (none)) else (if t294 = 1 then (some (t284, t287, (-2), t291, t295)) else (if t294 = 2 then ((spec_l1Rd_one.f k s0_0 t295 (([(-1), 42] : List Int))).bind fun bt302 => (if t287.length < 5864062014805 then (some (t284, (t287 ++ [(⟨bt302.1, (⟨#[]⟩ : ByteArray)⟩ : S70)]), t290, t291, bt302.2)) else (none))) else (if t294 = 3 then ((spec_l1Many.f k (⟨#[99]⟩ : ByteArray) 1201).bind fun t307 => (if 0 < (t284.length : Int) then (some ((t284.set (0 : Int).toNat t307), t287, t290, t291, t295)) else (none))) else (if t294 = 4 then (some (t284, t287, t290, (-2), t295)) else (if t294 = 5 then (spec_l15AnyDisk.l0 k s0_0 t295 t284 t287 t290 t291) else (some (t284, t287, t290, t291, t295)))))))) = some (r1, r2, r3, r4, r5) := H
  have A3 := Aside0.mk A30
  clear A30
  by_cases c4 : t294 = 0
  · rw [if_pos c4] at H
    have c4b0 : (t294 == 0) = true := beq_iff_eq.mpr c4
    have c4b1 : (t294 != 0) = false := bne_eq_false_iff_eq.mpr c4
    clear c4
    by_cases c5 : 1 ≤ (t284.length : Int)
    · rw [if_pos c5] at H
      have c5b0 := eq_true c5
      have c5b1 : decide (1 ≤ (t284.length : Int)) = true := decide_eq_true c5
      clear c5
      obtain ⟨y296, hy296⟩ : ∃ y_ : List ByteArray, y_ = (t284.drop (1 : Int).toNat) := ⟨_, rfl⟩
      replace H : (some (y296, t287, t290, t291, t295)) = some (r1, r2, r3, r4, r5) := by first | (rw [hy296]; with_reducible exact H) | (have H2_ := (Option.bind_some _ _).symm.trans H; rw [hy296]; with_reducible exact H2_) | (have H2_ := (Option.bind_some _ _).symm.trans H; with_reducible exact H2_) | with_reducible exact H | (rw [hy296]; exact H) | exact H
      have Ny296 := Aside0.mk hy296
      clear hy296
      simp only [Option.some.injEq, Prod.mk.injEq] at H
      obtain ⟨rfl, rfl, rfl, rfl, rfl⟩ := H
      go_enter Try.func33, Try.ntmps33
      go_wp2_with (first | ((with_reducible refine zB (N := 2) rfl ?_); refine qZ ?hg (N := 2) ?hd (cs := #[.slice none 0 0, .slice none 0 0, .int .i64 0, .int .i64 0]) (t := 26) ?hr ?_; (case hd => rfl); (case hg => rfl); (case hr => first | (go_simp; done) | (go_simp; rfl)); intro gb283 hg w6 hbox hb; have n0_ := Aside0.mk (IsS83.below (by repeat (first | (with_reducible first | exact HI0.out | apply IsS83.alloc | apply IsS83.drewN | apply IsS83.drew | apply IsS83.set_1) | exact HI0.out)) hb); have n1_ := Aside0.mk (KeepBut.trans (by repeat (first | (with_reducible first | exact HK.out | apply KeepBut.set_ | apply qK | apply qO | apply qL) | exact HK.out)) (KeepBut.of_below hb g none) (.inl rfl)); have n2_ := Aside0.mk (qN (by repeat (first | (with_reducible first | exact HB.out | apply qF | apply qC | apply qE | refine qB ?_ (IsS83.ge HI0.out)) | exact HB.out)) hb); have n3_ := Aside0.mk (hbox); have n4_ := Aside0.mk ((by rw [hg]; exact (zF (w := w) (g := g) (row := none) (by repeat (first | (with_reducible first | exact HK.out | apply KeepBut.set_ | apply qK | apply qO | apply qL) | exact HK.out))) : w.heap.size ≤ gb283)); have n5_ := Aside0.mk ((Nat.le_trans HW0.out (by rw [hg]; exact (zF (w := w) (g := g) (row := none) (by repeat (first | (with_reducible first | exact HK.out | apply KeepBut.set_ | apply qK | apply qO | apply qL) | exact HK.out))) : w.heap.size ≤ gb283) : w0.heap.size ≤ gb283)); have n6_ := Aside0.mk ((by rw [hg]; exact Nat.ne_of_lt (IsS83.lt (show IsS83 w0 _ g s0_0 s0_1 from by repeat (first | (with_reducible first | exact HI0.out | apply IsS83.alloc | apply IsS83.drewN | apply IsS83.drew | apply IsS83.set_1) | exact HI0.out))) : g ≠ gb283)); have n7_ := Aside0.mk ((by rw [hg]; exact Nat.ne_of_gt (IsS83.lt (show IsS83 w0 _ g s0_0 s0_1 from by repeat (first | (with_reducible first | exact HI0.out | apply IsS83.alloc | apply IsS83.drewN | apply IsS83.drew | apply IsS83.set_1) | exact HI0.out))) : gb283 ≠ g)); clear HI0; clear HK; clear HB; have HI0 := n0_; have HK := n1_; have HB := n2_; have BK283 := n3_; have GW283 := n4_; have GE283 := n5_; have NB0_283 := n6_; have NB283_0 := n7_; clear n0_ n1_ n2_ n3_ n4_ n5_ n6_ n7_; clear hb hbox hg) | ((with_reducible refine qT (f := 65) rfl ?_); refine zL (some 5) rfl rfl Try.func65 (by kernel_rfl) rfl #[.pointer (some ⟨g, 0, none⟩)] rfl (by (try simp only [List.map_toArray, List.map_cons, List.map_nil]); first | done | rfl | (simp only [List.length_drop, List.length_take]; rfl)) ?_; (with_reducible refine (spec_l15Disk.calls k g s0_0 s0_1 t284 t287 t290 t291 t292 w0 _ ?side1 ?side2 A2.out).mono ?_); (case side1 => repeat (first | (with_reducible first | exact HI0.out | apply IsS83.alloc | apply IsS83.drewN | apply IsS83.drew | apply IsS83.set_1 | refine IsS83.far ?_ NB0_283.out _) | exact HI0.out)); (case side2 => repeat (first | (with_reducible first | exact HB.out | apply qF | apply qC | apply qE | refine qB ?_ (IsS83.ge HI0.out) | refine qB ?_ GE283.out) | exact HB.out)); rintro e w7 ⟨v285, v288, rfl, ho0, ho1, hi, hb, hk⟩; refine ⟨_, rfl, ?_⟩; have n0_ := Aside0.mk (KeepBut.blk hk (g' := gb283) (o := .cells #[.slice none 0 0, .slice none 0 0, .int .i64 0, .int .i64 0] 26 (0, 0)) (bw_ BK283.out) NB283_0.out (by simp)); have n1_ := Aside0.mk (Kd.zJ ho0 (zF (w := w) (g := g) (row := none) (by repeat (first | (with_reducible first | exact HK.out | apply KeepBut.set_ | apply qK | apply qO | apply qL | refine qQ ?_ GW283.out _) | exact HK.out)))); have n2_ := Aside0.mk (Kd.zJ ho1 (zF (w := w) (g := g) (row := none) (by repeat (first | (with_reducible first | exact HK.out | apply KeepBut.set_ | apply qK | apply qO | apply qL | refine qQ ?_ GW283.out _) | exact HK.out)))); have n3_ := Aside0.mk (KeepBut.trans (by repeat (first | (with_reducible first | exact HK.out | apply KeepBut.set_ | apply qK | apply qO | apply qL | refine qQ ?_ GW283.out _) | exact HK.out)) hk (.inl rfl)); have n4_ := Aside0.mk (hb); have n5_ := Aside0.mk (hi); clear BK283; clear HK; clear HB; clear HI0; have BK283 := n0_; have HO286 := n1_; have HO289 := n2_; have HK := n3_; have HB := n4_; have HI0 := n5_; clear n0_ n1_ n2_ n3_ n4_ n5_; (try clear hb); (try clear hb2); (try clear hk); (try clear hi); (try clear ho0); (try clear ho1)) | ((with_reducible refine zB (N := 3) rfl ?_); refine qZ ?hg (N := 3) ?hd (cs := #[.slice none 0 0, .slice none 0 0, .int .i64 0, .int .i64 0]) (t := 26) ?hr ?_; (case hd => rfl); (case hg => rfl); (case hr => first | (go_simp; done) | (go_simp; rfl)); intro gb293 hg w8 hbox hb; have n0_ := Aside0.mk (Kd.qU (rw_ HO286.out) hb); have n1_ := Aside0.mk (Kd.qU (rw_ HO289.out) hb); have n2_ := Aside0.mk (IsS83.below (by repeat (first | (with_reducible first | exact HI0.out | apply IsS83.alloc | apply IsS83.drewN | apply IsS83.drew | apply IsS83.set_1 | refine IsS83.far ?_ NB0_283.out _) | exact HI0.out)) hb); have n3_ := Aside0.mk (qJ (g := gb283) (o := .cells #[.slice none 0 0, .slice none 0 0, .int .i64 0, .int .i64 0] 26 (0, 0)) (bw_ BK283.out) hb); have n4_ := Aside0.mk (KeepBut.trans (by repeat (first | (with_reducible first | exact HK.out | apply KeepBut.set_ | apply qK | apply qO | apply qL | refine qQ ?_ GW283.out _) | exact HK.out)) (KeepBut.of_below hb g none) (.inl rfl)); have n5_ := Aside0.mk (qN (by repeat (first | (with_reducible first | exact HB.out | apply qF | apply qC | apply qE | refine qB ?_ (IsS83.ge HI0.out) | refine qB ?_ GE283.out) | exact HB.out)) hb); have n6_ := Aside0.mk (hbox); have n7_ := Aside0.mk ((by rw [hg]; exact (zF (w := w) (g := g) (row := none) (by repeat (first | (with_reducible first | exact HK.out | apply KeepBut.set_ | apply qK | apply qO | apply qL | refine qQ ?_ GW283.out _) | exact HK.out))) : w.heap.size ≤ gb293)); have n8_ := Aside0.mk ((Nat.le_trans HW0.out (by rw [hg]; exact (zF (w := w) (g := g) (row := none) (by repeat (first | (with_reducible first | exact HK.out | apply KeepBut.set_ | apply qK | apply qO | apply qL | refine qQ ?_ GW283.out _) | exact HK.out))) : w.heap.size ≤ gb293) : w0.heap.size ≤ gb293)); have n9_ := Aside0.mk ((by rw [hg]; exact Nat.ne_of_lt (zE (g := gb283) (o := .cells #[.slice none 0 0, .slice none 0 0, .int .i64 0, .int .i64 0] 26 (0, 0)) (bw_ BK283.out)) : gb283 ≠ gb293)); have n10_ := Aside0.mk ((by rw [hg]; exact Nat.ne_of_gt (zE (g := gb283) (o := .cells #[.slice none 0 0, .slice none 0 0, .int .i64 0, .int .i64 0] 26 (0, 0)) (bw_ BK283.out)) : gb293 ≠ gb283)); have n11_ := Aside0.mk ((by rw [hg]; exact Nat.ne_of_lt (IsS83.lt (show IsS83 w0 _ g s0_0 t292 from by repeat (first | (with_reducible first | exact HI0.out | apply IsS83.alloc | apply IsS83.drewN | apply IsS83.drew | apply IsS83.set_1 | refine IsS83.far ?_ NB0_283.out _) | exact HI0.out))) : g ≠ gb293)); have n12_ := Aside0.mk ((by rw [hg]; exact Nat.ne_of_gt (IsS83.lt (show IsS83 w0 _ g s0_0 t292 from by repeat (first | (with_reducible first | exact HI0.out | apply IsS83.alloc | apply IsS83.drewN | apply IsS83.drew | apply IsS83.set_1 | refine IsS83.far ?_ NB0_283.out _) | exact HI0.out))) : gb293 ≠ g)); clear HO286; clear HO289; clear HI0; clear BK283; clear HK; clear HB; have HO286 := n0_; have HO289 := n1_; have HI0 := n2_; have BK283 := n3_; have HK := n4_; have HB := n5_; have BK293 := n6_; have GW293 := n7_; have GE293 := n8_; have NB283_293 := n9_; have NB293_283 := n10_; have NB0_293 := n11_; have NB293_0 := n12_; clear n0_ n1_ n2_ n3_ n4_ n5_ n6_ n7_ n8_ n9_ n10_ n11_ n12_; clear hb hbox hg; obtain ⟨Ao9, co9, eo9⟩ := Kd.zG HO286.out; subst eo9; have hnb10 := NB293_283.out; have hnc10 := NB283_293.out; have hnb11 := NB293_0.out; have hnc11 := NB0_293.out; have hcz12_0 : w8.cell? ⟨gb293, 0, none⟩ = some (.slice none 0 0) := (qA BK293.out 0).trans rfl; have hcz12_1 : w8.cell? ⟨gb293, 1, none⟩ = some (.slice none 0 0) := (qA BK293.out 1).trans rfl; have hcz12_2 : w8.cell? ⟨gb293, 2, none⟩ = some (.int .i64 0) := (qA BK293.out 2).trans rfl; have hcz12_3 : w8.cell? ⟨gb293, 3, none⟩ = some (.int .i64 0) := (qA BK293.out 3).trans rfl; have hfz12_0 := qD BK293.out 0; have hfz12_1 := qD BK293.out 1; have hfz12_2 := qD BK293.out 2; have hfz12_3 := qD BK293.out 3; obtain ⟨Ao13, co13, eo13⟩ := Kd.zG HO289.out; subst eo13) | ((with_reducible refine qT (f := 34) rfl ?_); refine zL (some 7) rfl rfl Try.func34 (by kernel_rfl) rfl #[.pointer (some ⟨g, 0, none⟩), .int .i64 24] rfl (by (try simp only [List.map_toArray, List.map_cons, List.map_nil]); first | done | rfl | (simp only [List.length_drop, List.length_take]; rfl)) ?_; (with_reducible refine (spec_l1Rd_pick.calls k g s0_0 t292 24 t294 t295 w0 _ ?side1 ?side2 A3.out).mono ?_); (case side1 => repeat (first | (with_reducible first | exact HI0.out | apply IsS83.alloc | apply IsS83.drewN | apply IsS83.drew | apply IsS83.set_1 | refine IsS83.far ?_ NB0_283.out _ | refine IsS83.far ?_ NB0_293.out _) | exact HI0.out)); (case side2 => repeat (first | (with_reducible first | exact HB.out | apply qF | apply qC | apply qE | refine qB ?_ (IsS83.ge HI0.out) | refine qB ?_ GE283.out | refine qB ?_ GE293.out) | exact HB.out)); rintro e w14 ⟨rfl, hi, hb, hk⟩; refine ⟨_, rfl, ?_⟩; have n0_ := Aside0.mk (KeepBut.blk hk (g' := gb283) (o := .cells #[.slice none 0 0, .slice none 0 0, .int .i64 0, .int .i64 0] 26 (0, 0)) (by (with_reducible repeat (first | refine qH ?_ _ | refine qI ?_ | refine qG ?_ _)); refine qR ?_ NB283_293.out _; (with_reducible repeat (first | refine qH ?_ _ | refine qI ?_ | refine qG ?_ _)); refine qR ?_ NB283_293.out _; (with_reducible repeat (first | refine qH ?_ _ | refine qI ?_ | refine qG ?_ _)); refine qR ?_ NB283_293.out _; (with_reducible repeat (first | refine qH ?_ _ | refine qI ?_ | refine qG ?_ _)); refine qR ?_ NB283_293.out _; (with_reducible repeat (first | refine qH ?_ _ | refine qI ?_ | refine qG ?_ _)); exact BK283.out) NB283_0.out (by simp)); have n1_ := Aside0.mk (Kd.qS (Kd.zM (IsS83.apart (show IsS83 w0 _ g s0_0 t292 from by repeat (first | (with_reducible first | exact HI0.out | apply IsS83.alloc | apply IsS83.drewN | apply IsS83.drew | apply IsS83.set_1 | refine IsS83.far ?_ NB0_283.out _ | refine IsS83.far ?_ NB0_293.out _) | exact HI0.out)) (by (with_reducible repeat (first | apply Kd.qX | apply Kd.qV | apply Kd.qW)); exact (Kd.qS (Kd.R_far (p := ⟨gb293, 3, none⟩) (Kd.R_far (p := ⟨gb293, 2, none⟩) (Kd.R_far (p := ⟨gb293, 1, none⟩) (Kd.R_far (p := ⟨gb293, 0, none⟩) (Kd.qY HO286.out BK293.out (by decide)) (fun _ hk => hk.2) (.slice Ao9 t284.length co9)) (fun _ hk => hk.2) (.slice Ao13 t287.length co13)) (fun _ hk => hk.2) (.int .i64 t290)) (fun _ hk => hk.2) (.int .i64 t291)) (fun _ h_ => h_.1))) (by decide)) hk (fun _ h => h.2)) (fun _ h => h.1)); have n2_ := Aside0.mk (Kd.qS (Kd.zM (IsS83.apart (show IsS83 w0 _ g s0_0 t292 from by repeat (first | (with_reducible first | exact HI0.out | apply IsS83.alloc | apply IsS83.drewN | apply IsS83.drew | apply IsS83.set_1 | refine IsS83.far ?_ NB0_283.out _ | refine IsS83.far ?_ NB0_293.out _) | exact HI0.out)) (by (with_reducible repeat (first | apply Kd.qX | apply Kd.qV | apply Kd.qW)); exact (Kd.qS (Kd.R_far (p := ⟨gb293, 3, none⟩) (Kd.R_far (p := ⟨gb293, 2, none⟩) (Kd.R_far (p := ⟨gb293, 1, none⟩) (Kd.R_far (p := ⟨gb293, 0, none⟩) (Kd.qY HO289.out BK293.out (by decide)) (fun _ hk => hk.2) (.slice Ao9 t284.length co9)) (fun _ hk => hk.2) (.slice Ao13 t287.length co13)) (fun _ hk => hk.2) (.int .i64 t290)) (fun _ hk => hk.2) (.int .i64 t291)) (fun _ h_ => h_.1))) (by decide)) hk (fun _ h => h.2)) (fun _ h => h.1)); have n3_ := Aside0.mk (KeepBut.blk hk (g' := gb293) (o := .cells #[.slice Ao9 t284.length co9, .slice Ao13 t287.length co13, .int .i64 t290, .int .i64 t291] 26 (0, 0)) (by (with_reducible repeat (first | refine qH ?_ _ | refine qI ?_ | refine qG ?_ _)); refine qP (cs := #[.slice Ao9 t284.length co9, .slice Ao13 t287.length co13, .int .i64 t290, .int .i64 0]) ?_ 3 _ rfl; (with_reducible repeat (first | refine qH ?_ _ | refine qI ?_ | refine qG ?_ _)); refine qP (cs := #[.slice Ao9 t284.length co9, .slice Ao13 t287.length co13, .int .i64 0, .int .i64 0]) ?_ 2 _ rfl; (with_reducible repeat (first | refine qH ?_ _ | refine qI ?_ | refine qG ?_ _)); refine qP (cs := #[.slice Ao9 t284.length co9, .slice none 0 0, .int .i64 0, .int .i64 0]) ?_ 1 _ rfl; (with_reducible repeat (first | refine qH ?_ _ | refine qI ?_ | refine qG ?_ _)); refine qP (cs := #[.slice none 0 0, .slice none 0 0, .int .i64 0, .int .i64 0]) ?_ 0 _ rfl; (with_reducible repeat (first | refine qH ?_ _ | refine qI ?_ | refine qG ?_ _)); exact BK293.out) NB293_0.out (by simp)); have n4_ := Aside0.mk (KeepBut.trans (by repeat (first | (with_reducible first | exact HK.out | apply KeepBut.set_ | apply qK | apply qO | apply qL | refine qQ ?_ GW283.out _ | refine qQ ?_ GW293.out _) | exact HK.out)) hk (.inl rfl)); have n5_ := Aside0.mk (hb); have n6_ := Aside0.mk (hi); clear BK283; clear HO286; clear HO289; clear BK293; clear HK; clear HB; clear HI0; have BK283 := n0_; have HO286 := n1_; have HO289 := n2_; have BK293 := n3_; have HK := n4_; have HB := n5_; have HI0 := n6_; clear n0_ n1_ n2_ n3_ n4_ n5_ n6_; (try clear hb); (try clear hb2); (try clear hk); (try clear hi); have hcz15_0 : w14.cell? ⟨gb293, 0, none⟩ = some (.slice Ao9 t284.length co9) := (qA BK293.out 0).trans rfl; have hcz15_1 : w14.cell? ⟨gb293, 1, none⟩ = some (.slice Ao13 t287.length co13) := (qA BK293.out 1).trans rfl; have hcz15_2 : w14.cell? ⟨gb293, 2, none⟩ = some (.int .i64 t290) := (qA BK293.out 2).trans rfl; have hcz15_3 : w14.cell? ⟨gb293, 3, none⟩ = some (.int .i64 t291) := (qA BK293.out 3).trans rfl; have hfz15_0 := qD BK293.out 0; have hfz15_1 := qD BK293.out 1; have hfz15_2 := qD BK293.out 2; have hfz15_3 := qD BK293.out 3; have q16 : (1 : Int) ≤ ((t284.length : Int) : Int) := of_decide_eq_true (by first | (with_reducible assumption) | assumption); obtain ⟨i016, hi016, _, hsz16, _⟩ := info_parts info9; have hcut16 := cut_from (P := Try.prog) 23 9 .i64 Try.underlying23 hi016 1 hsz16 Ao9 t284.length co9 1 (by omega) q16; have hr16 := Kd.Q_drop (k := (1 : Int).toNat) (Kd.Q_of_R HO286.out) (by omega); obtain ⟨A16, hA16⟩ : ∃ A1, A1 = (if co9 = (1 : Int).toNat then Ao9 else (Ao9 : Option Addr).map (·.add ((1 : Int).toNat * 1))) := ⟨_, rfl⟩; obtain ⟨c16, hc16⟩ : ∃ c1, c1 = co9 - (1 : Int).toNat := ⟨_, rfl⟩; have hy16 : y296.length = t284.length - (1 : Int).toNat := (by rw [Ny296.out, List.length_drop]); rw [← Ny296.out] at hr16; rw [← hy16, ← hA16, ← hc16] at hcut16; replace hr16 : Kd.Q Kd.string 9 w14 w.heap.size (fun _ => True) (.slice A16 y296.length c16) y296 := (by rw [hA16, hc16, hy16]; exact hr16); have HE16 : Aside0 ((Value.slice A16 y296.length c16).ownBlock = (.slice Ao9 t284.length co9 : Value).ownBlock) := ⟨by rw [hA16]; split <;> (cases (Ao9 : Option Addr) <;> rfl)⟩; clear hy16 hi016 hsz16 HO286 hA16 hc16; have HO298 := Aside0.mk hr16; clear hr16; replace q16 := eq_true q16; have hnb17 := NB283_0.out; have hnc17 := NB0_283.out; have hcz18_0 : w14.cell? ⟨gb283, 0, none⟩ = some (.slice none 0 0) := (qA BK283.out 0).trans rfl; have hcz18_1 : w14.cell? ⟨gb283, 1, none⟩ = some (.slice none 0 0) := (qA BK283.out 1).trans rfl; have hcz18_2 : w14.cell? ⟨gb283, 2, none⟩ = some (.int .i64 0) := (qA BK283.out 2).trans rfl; have hcz18_3 : w14.cell? ⟨gb283, 3, none⟩ = some (.int .i64 0) := (qA BK283.out 3).trans rfl; have hfz18_0 := qD BK283.out 0; have hfz18_1 := qD BK283.out 1; have hfz18_2 := qD BK283.out 2; have hfz18_3 := qD BK283.out 3))
      refine bodyPost_ret (results_cell_row rfl _ _ gb283 26 #[.slice A16 y296.length c16, .slice Ao13 t287.length co13, .int .i64 t290, .int .i64 t291] (0, 0) _ rfl (by (with_reducible repeat (first | refine qH ?_ _ | refine qI ?_ | refine qG ?_ _)); refine qP (cs := #[.slice A16 y296.length c16, .slice Ao13 t287.length co13, .int .i64 t290, .int .i64 0]) ?_ 3 _ rfl; (with_reducible repeat (first | refine qH ?_ _ | refine qI ?_ | refine qG ?_ _)); refine qP (cs := #[.slice A16 y296.length c16, .slice Ao13 t287.length co13, .int .i64 0, .int .i64 0]) ?_ 2 _ rfl; (with_reducible repeat (first | refine qH ?_ _ | refine qI ?_ | refine qG ?_ _)); refine qP (cs := #[.slice A16 y296.length c16, .slice none 0 0, .int .i64 0, .int .i64 0]) ?_ 1 _ rfl; (with_reducible repeat (first | refine qH ?_ _ | refine qI ?_ | refine qG ?_ _)); refine qP (cs := #[.slice none 0 0, .slice none 0 0, .int .i64 0, .int .i64 0]) ?_ 0 _ rfl; (with_reducible repeat (first | refine qH ?_ _ | refine qI ?_ | refine qG ?_ _)); refine qR ?_ NB283_293.out _; (with_reducible repeat (first | refine qH ?_ _ | refine qI ?_ | refine qG ?_ _)); exact BK283.out) Try.underlying26 rfl (by kernel_rfl)) rfl ?_
      exact ⟨_, _, by first | rfl | (simp [errW_none, errW_some] <;> rfl) | (simp [*, errW_none, errW_some] <;> rfl), by (with_reducible repeat (first | apply Kd.zW | apply Kd.zX | apply Kd.zS)); exact Kd.zU (Kd.Q_far (p := ⟨gb283, 3, none⟩) (Kd.Q_far (p := ⟨gb283, 2, none⟩) (Kd.Q_far (p := ⟨gb283, 1, none⟩) (Kd.Q_far (p := ⟨gb283, 0, none⟩) (Kd.Q_far (p := ⟨gb293, 0, none⟩) (Kd.xA (Kd.xA HO298.out BK293.out (by decide)) BK283.out (by decide)) (fun _ hk => hk.1.2) (.slice A16 y296.length c16)) (fun _ hk => hk.2) (.slice A16 y296.length c16)) (fun _ hk => hk.2) (.slice Ao13 t287.length co13)) (fun _ hk => hk.2) (.int .i64 t290)) (fun _ hk => hk.2) (.int .i64 t291)) (fun _ hk => trivial), by (with_reducible repeat (first | apply Kd.qX | apply Kd.qV | apply Kd.qW)); exact Kd.qS (Kd.R_far (p := ⟨gb283, 3, none⟩) (Kd.R_far (p := ⟨gb283, 2, none⟩) (Kd.R_far (p := ⟨gb283, 1, none⟩) (Kd.R_far (p := ⟨gb283, 0, none⟩) (Kd.R_far (p := ⟨gb293, 0, none⟩) (Kd.qY (Kd.qY HO289.out BK293.out (by decide)) BK283.out (by decide)) (fun _ hk => hk.1.2) (.slice A16 y296.length c16)) (fun _ hk => hk.2) (.slice A16 y296.length c16)) (fun _ hk => hk.2) (.slice Ao13 t287.length co13)) (fun _ hk => hk.2) (.int .i64 t290)) (fun _ hk => hk.2) (.int .i64 t291)) (fun _ hk => trivial), by repeat (first | (with_reducible first | exact HI0.out | apply IsS83.alloc | apply IsS83.drewN | apply IsS83.drew | apply IsS83.set_1 | refine IsS83.far ?_ NB0_283.out _ | refine IsS83.far ?_ NB0_293.out _) | exact HI0.out), by repeat (first | (with_reducible first | exact HB.out | apply qF | apply qC | apply qE | refine qB ?_ (IsS83.ge HI0.out) | refine qB ?_ GE283.out | refine qB ?_ GE293.out) | exact HB.out), by repeat (first | (with_reducible first | exact HK.out | apply KeepBut.set_ | apply qK | apply qO | apply qL | refine qQ ?_ GW283.out _ | refine qQ ?_ GW293.out _) | exact HK.out)⟩
    · rw [if_neg c5] at H
      exact absurd H (by simp)
  · rw [if_neg c4] at H
    have c4b0 : (t294 == 0) = false := beq_eq_false_iff_ne.mpr c4
    have c4b1 : (t294 != 0) = true := bne_iff_ne.mpr c4
    by_cases c19 : t294 = 1
    · rw [if_pos c19] at H
      have c19b0 : (t294 == 1) = true := beq_iff_eq.mpr c19
      have c19b1 : (t294 != 1) = false := bne_eq_false_iff_eq.mpr c19
      clear c19
      simp only [Option.some.injEq, Prod.mk.injEq] at H
      obtain ⟨rfl, rfl, rfl, rfl, rfl⟩ := H
      go_enter Try.func33, Try.ntmps33
      go_wp2_with (first | ((with_reducible refine zB (N := 2) rfl ?_); refine qZ ?hg (N := 2) ?hd (cs := #[.slice none 0 0, .slice none 0 0, .int .i64 0, .int .i64 0]) (t := 26) ?hr ?_; (case hd => rfl); (case hg => rfl); (case hr => first | (go_simp; done) | (go_simp; rfl)); intro gb283 hg w20 hbox hb; have n0_ := Aside0.mk (IsS83.below (by repeat (first | (with_reducible first | exact HI0.out | apply IsS83.alloc | apply IsS83.drewN | apply IsS83.drew | apply IsS83.set_1) | exact HI0.out)) hb); have n1_ := Aside0.mk (KeepBut.trans (by repeat (first | (with_reducible first | exact HK.out | apply KeepBut.set_ | apply qK | apply qO | apply qL) | exact HK.out)) (KeepBut.of_below hb g none) (.inl rfl)); have n2_ := Aside0.mk (qN (by repeat (first | (with_reducible first | exact HB.out | apply qF | apply qC | apply qE | refine qB ?_ (IsS83.ge HI0.out)) | exact HB.out)) hb); have n3_ := Aside0.mk (hbox); have n4_ := Aside0.mk ((by rw [hg]; exact (zF (w := w) (g := g) (row := none) (by repeat (first | (with_reducible first | exact HK.out | apply KeepBut.set_ | apply qK | apply qO | apply qL) | exact HK.out))) : w.heap.size ≤ gb283)); have n5_ := Aside0.mk ((Nat.le_trans HW0.out (by rw [hg]; exact (zF (w := w) (g := g) (row := none) (by repeat (first | (with_reducible first | exact HK.out | apply KeepBut.set_ | apply qK | apply qO | apply qL) | exact HK.out))) : w.heap.size ≤ gb283) : w0.heap.size ≤ gb283)); have n6_ := Aside0.mk ((by rw [hg]; exact Nat.ne_of_lt (IsS83.lt (show IsS83 w0 _ g s0_0 s0_1 from by repeat (first | (with_reducible first | exact HI0.out | apply IsS83.alloc | apply IsS83.drewN | apply IsS83.drew | apply IsS83.set_1) | exact HI0.out))) : g ≠ gb283)); have n7_ := Aside0.mk ((by rw [hg]; exact Nat.ne_of_gt (IsS83.lt (show IsS83 w0 _ g s0_0 s0_1 from by repeat (first | (with_reducible first | exact HI0.out | apply IsS83.alloc | apply IsS83.drewN | apply IsS83.drew | apply IsS83.set_1) | exact HI0.out))) : gb283 ≠ g)); clear HI0; clear HK; clear HB; have HI0 := n0_; have HK := n1_; have HB := n2_; have BK283 := n3_; have GW283 := n4_; have GE283 := n5_; have NB0_283 := n6_; have NB283_0 := n7_; clear n0_ n1_ n2_ n3_ n4_ n5_ n6_ n7_; clear hb hbox hg) | ((with_reducible refine qT (f := 65) rfl ?_); refine zL (some 5) rfl rfl Try.func65 (by kernel_rfl) rfl #[.pointer (some ⟨g, 0, none⟩)] rfl (by (try simp only [List.map_toArray, List.map_cons, List.map_nil]); first | done | rfl | (simp only [List.length_drop, List.length_take]; rfl)) ?_; (with_reducible refine (spec_l15Disk.calls k g s0_0 s0_1 t284 t287 t290 t291 t292 w0 _ ?side1 ?side2 A2.out).mono ?_); (case side1 => repeat (first | (with_reducible first | exact HI0.out | apply IsS83.alloc | apply IsS83.drewN | apply IsS83.drew | apply IsS83.set_1 | refine IsS83.far ?_ NB0_283.out _) | exact HI0.out)); (case side2 => repeat (first | (with_reducible first | exact HB.out | apply qF | apply qC | apply qE | refine qB ?_ (IsS83.ge HI0.out) | refine qB ?_ GE283.out) | exact HB.out)); rintro e w21 ⟨v285, v288, rfl, ho0, ho1, hi, hb, hk⟩; refine ⟨_, rfl, ?_⟩; have n0_ := Aside0.mk (KeepBut.blk hk (g' := gb283) (o := .cells #[.slice none 0 0, .slice none 0 0, .int .i64 0, .int .i64 0] 26 (0, 0)) (bw_ BK283.out) NB283_0.out (by simp)); have n1_ := Aside0.mk (Kd.zJ ho0 (zF (w := w) (g := g) (row := none) (by repeat (first | (with_reducible first | exact HK.out | apply KeepBut.set_ | apply qK | apply qO | apply qL | refine qQ ?_ GW283.out _) | exact HK.out)))); have n2_ := Aside0.mk (Kd.zJ ho1 (zF (w := w) (g := g) (row := none) (by repeat (first | (with_reducible first | exact HK.out | apply KeepBut.set_ | apply qK | apply qO | apply qL | refine qQ ?_ GW283.out _) | exact HK.out)))); have n3_ := Aside0.mk (KeepBut.trans (by repeat (first | (with_reducible first | exact HK.out | apply KeepBut.set_ | apply qK | apply qO | apply qL | refine qQ ?_ GW283.out _) | exact HK.out)) hk (.inl rfl)); have n4_ := Aside0.mk (hb); have n5_ := Aside0.mk (hi); clear BK283; clear HK; clear HB; clear HI0; have BK283 := n0_; have HO286 := n1_; have HO289 := n2_; have HK := n3_; have HB := n4_; have HI0 := n5_; clear n0_ n1_ n2_ n3_ n4_ n5_; (try clear hb); (try clear hb2); (try clear hk); (try clear hi); (try clear ho0); (try clear ho1)) | ((with_reducible refine zB (N := 3) rfl ?_); refine qZ ?hg (N := 3) ?hd (cs := #[.slice none 0 0, .slice none 0 0, .int .i64 0, .int .i64 0]) (t := 26) ?hr ?_; (case hd => rfl); (case hg => rfl); (case hr => first | (go_simp; done) | (go_simp; rfl)); intro gb293 hg w22 hbox hb; have n0_ := Aside0.mk (Kd.qU (rw_ HO286.out) hb); have n1_ := Aside0.mk (Kd.qU (rw_ HO289.out) hb); have n2_ := Aside0.mk (IsS83.below (by repeat (first | (with_reducible first | exact HI0.out | apply IsS83.alloc | apply IsS83.drewN | apply IsS83.drew | apply IsS83.set_1 | refine IsS83.far ?_ NB0_283.out _) | exact HI0.out)) hb); have n3_ := Aside0.mk (qJ (g := gb283) (o := .cells #[.slice none 0 0, .slice none 0 0, .int .i64 0, .int .i64 0] 26 (0, 0)) (bw_ BK283.out) hb); have n4_ := Aside0.mk (KeepBut.trans (by repeat (first | (with_reducible first | exact HK.out | apply KeepBut.set_ | apply qK | apply qO | apply qL | refine qQ ?_ GW283.out _) | exact HK.out)) (KeepBut.of_below hb g none) (.inl rfl)); have n5_ := Aside0.mk (qN (by repeat (first | (with_reducible first | exact HB.out | apply qF | apply qC | apply qE | refine qB ?_ (IsS83.ge HI0.out) | refine qB ?_ GE283.out) | exact HB.out)) hb); have n6_ := Aside0.mk (hbox); have n7_ := Aside0.mk ((by rw [hg]; exact (zF (w := w) (g := g) (row := none) (by repeat (first | (with_reducible first | exact HK.out | apply KeepBut.set_ | apply qK | apply qO | apply qL | refine qQ ?_ GW283.out _) | exact HK.out))) : w.heap.size ≤ gb293)); have n8_ := Aside0.mk ((Nat.le_trans HW0.out (by rw [hg]; exact (zF (w := w) (g := g) (row := none) (by repeat (first | (with_reducible first | exact HK.out | apply KeepBut.set_ | apply qK | apply qO | apply qL | refine qQ ?_ GW283.out _) | exact HK.out))) : w.heap.size ≤ gb293) : w0.heap.size ≤ gb293)); have n9_ := Aside0.mk ((by rw [hg]; exact Nat.ne_of_lt (zE (g := gb283) (o := .cells #[.slice none 0 0, .slice none 0 0, .int .i64 0, .int .i64 0] 26 (0, 0)) (bw_ BK283.out)) : gb283 ≠ gb293)); have n10_ := Aside0.mk ((by rw [hg]; exact Nat.ne_of_gt (zE (g := gb283) (o := .cells #[.slice none 0 0, .slice none 0 0, .int .i64 0, .int .i64 0] 26 (0, 0)) (bw_ BK283.out)) : gb293 ≠ gb283)); have n11_ := Aside0.mk ((by rw [hg]; exact Nat.ne_of_lt (IsS83.lt (show IsS83 w0 _ g s0_0 t292 from by repeat (first | (with_reducible first | exact HI0.out | apply IsS83.alloc | apply IsS83.drewN | apply IsS83.drew | apply IsS83.set_1 | refine IsS83.far ?_ NB0_283.out _) | exact HI0.out))) : g ≠ gb293)); have n12_ := Aside0.mk ((by rw [hg]; exact Nat.ne_of_gt (IsS83.lt (show IsS83 w0 _ g s0_0 t292 from by repeat (first | (with_reducible first | exact HI0.out | apply IsS83.alloc | apply IsS83.drewN | apply IsS83.drew | apply IsS83.set_1 | refine IsS83.far ?_ NB0_283.out _) | exact HI0.out))) : gb293 ≠ g)); clear HO286; clear HO289; clear HI0; clear BK283; clear HK; clear HB; have HO286 := n0_; have HO289 := n1_; have HI0 := n2_; have BK283 := n3_; have HK := n4_; have HB := n5_; have BK293 := n6_; have GW293 := n7_; have GE293 := n8_; have NB283_293 := n9_; have NB293_283 := n10_; have NB0_293 := n11_; have NB293_0 := n12_; clear n0_ n1_ n2_ n3_ n4_ n5_ n6_ n7_ n8_ n9_ n10_ n11_ n12_; clear hb hbox hg; obtain ⟨Ao23, co23, eo23⟩ := Kd.zG HO286.out; subst eo23; have hnb24 := NB293_283.out; have hnc24 := NB283_293.out; have hnb25 := NB293_0.out; have hnc25 := NB0_293.out; have hcz26_0 : w22.cell? ⟨gb293, 0, none⟩ = some (.slice none 0 0) := (qA BK293.out 0).trans rfl; have hcz26_1 : w22.cell? ⟨gb293, 1, none⟩ = some (.slice none 0 0) := (qA BK293.out 1).trans rfl; have hcz26_2 : w22.cell? ⟨gb293, 2, none⟩ = some (.int .i64 0) := (qA BK293.out 2).trans rfl; have hcz26_3 : w22.cell? ⟨gb293, 3, none⟩ = some (.int .i64 0) := (qA BK293.out 3).trans rfl; have hfz26_0 := qD BK293.out 0; have hfz26_1 := qD BK293.out 1; have hfz26_2 := qD BK293.out 2; have hfz26_3 := qD BK293.out 3; obtain ⟨Ao27, co27, eo27⟩ := Kd.zG HO289.out; subst eo27) | ((with_reducible refine qT (f := 34) rfl ?_); refine zL (some 7) rfl rfl Try.func34 (by kernel_rfl) rfl #[.pointer (some ⟨g, 0, none⟩), .int .i64 24] rfl (by (try simp only [List.map_toArray, List.map_cons, List.map_nil]); first | done | rfl | (simp only [List.length_drop, List.length_take]; rfl)) ?_; (with_reducible refine (spec_l1Rd_pick.calls k g s0_0 t292 24 t294 t295 w0 _ ?side1 ?side2 A3.out).mono ?_); (case side1 => repeat (first | (with_reducible first | exact HI0.out | apply IsS83.alloc | apply IsS83.drewN | apply IsS83.drew | apply IsS83.set_1 | refine IsS83.far ?_ NB0_283.out _ | refine IsS83.far ?_ NB0_293.out _) | exact HI0.out)); (case side2 => repeat (first | (with_reducible first | exact HB.out | apply qF | apply qC | apply qE | refine qB ?_ (IsS83.ge HI0.out) | refine qB ?_ GE283.out | refine qB ?_ GE293.out) | exact HB.out)); rintro e w28 ⟨rfl, hi, hb, hk⟩; refine ⟨_, rfl, ?_⟩; have n0_ := Aside0.mk (KeepBut.blk hk (g' := gb283) (o := .cells #[.slice none 0 0, .slice none 0 0, .int .i64 0, .int .i64 0] 26 (0, 0)) (by (with_reducible repeat (first | refine qH ?_ _ | refine qI ?_ | refine qG ?_ _)); refine qR ?_ NB283_293.out _; (with_reducible repeat (first | refine qH ?_ _ | refine qI ?_ | refine qG ?_ _)); refine qR ?_ NB283_293.out _; (with_reducible repeat (first | refine qH ?_ _ | refine qI ?_ | refine qG ?_ _)); refine qR ?_ NB283_293.out _; (with_reducible repeat (first | refine qH ?_ _ | refine qI ?_ | refine qG ?_ _)); refine qR ?_ NB283_293.out _; (with_reducible repeat (first | refine qH ?_ _ | refine qI ?_ | refine qG ?_ _)); exact BK283.out) NB283_0.out (by simp)); have n1_ := Aside0.mk (Kd.qS (Kd.zM (IsS83.apart (show IsS83 w0 _ g s0_0 t292 from by repeat (first | (with_reducible first | exact HI0.out | apply IsS83.alloc | apply IsS83.drewN | apply IsS83.drew | apply IsS83.set_1 | refine IsS83.far ?_ NB0_283.out _ | refine IsS83.far ?_ NB0_293.out _) | exact HI0.out)) (by (with_reducible repeat (first | apply Kd.qX | apply Kd.qV | apply Kd.qW)); exact (Kd.qS (Kd.R_far (p := ⟨gb293, 3, none⟩) (Kd.R_far (p := ⟨gb293, 2, none⟩) (Kd.R_far (p := ⟨gb293, 1, none⟩) (Kd.R_far (p := ⟨gb293, 0, none⟩) (Kd.qY HO286.out BK293.out (by decide)) (fun _ hk => hk.2) (.slice Ao23 t284.length co23)) (fun _ hk => hk.2) (.slice Ao27 t287.length co27)) (fun _ hk => hk.2) (.int .i64 t290)) (fun _ hk => hk.2) (.int .i64 t291)) (fun _ h_ => h_.1))) (by decide)) hk (fun _ h => h.2)) (fun _ h => h.1)); have n2_ := Aside0.mk (Kd.qS (Kd.zM (IsS83.apart (show IsS83 w0 _ g s0_0 t292 from by repeat (first | (with_reducible first | exact HI0.out | apply IsS83.alloc | apply IsS83.drewN | apply IsS83.drew | apply IsS83.set_1 | refine IsS83.far ?_ NB0_283.out _ | refine IsS83.far ?_ NB0_293.out _) | exact HI0.out)) (by (with_reducible repeat (first | apply Kd.qX | apply Kd.qV | apply Kd.qW)); exact (Kd.qS (Kd.R_far (p := ⟨gb293, 3, none⟩) (Kd.R_far (p := ⟨gb293, 2, none⟩) (Kd.R_far (p := ⟨gb293, 1, none⟩) (Kd.R_far (p := ⟨gb293, 0, none⟩) (Kd.qY HO289.out BK293.out (by decide)) (fun _ hk => hk.2) (.slice Ao23 t284.length co23)) (fun _ hk => hk.2) (.slice Ao27 t287.length co27)) (fun _ hk => hk.2) (.int .i64 t290)) (fun _ hk => hk.2) (.int .i64 t291)) (fun _ h_ => h_.1))) (by decide)) hk (fun _ h => h.2)) (fun _ h => h.1)); have n3_ := Aside0.mk (KeepBut.blk hk (g' := gb293) (o := .cells #[.slice Ao23 t284.length co23, .slice Ao27 t287.length co27, .int .i64 t290, .int .i64 t291] 26 (0, 0)) (by (with_reducible repeat (first | refine qH ?_ _ | refine qI ?_ | refine qG ?_ _)); refine qP (cs := #[.slice Ao23 t284.length co23, .slice Ao27 t287.length co27, .int .i64 t290, .int .i64 0]) ?_ 3 _ rfl; (with_reducible repeat (first | refine qH ?_ _ | refine qI ?_ | refine qG ?_ _)); refine qP (cs := #[.slice Ao23 t284.length co23, .slice Ao27 t287.length co27, .int .i64 0, .int .i64 0]) ?_ 2 _ rfl; (with_reducible repeat (first | refine qH ?_ _ | refine qI ?_ | refine qG ?_ _)); refine qP (cs := #[.slice Ao23 t284.length co23, .slice none 0 0, .int .i64 0, .int .i64 0]) ?_ 1 _ rfl; (with_reducible repeat (first | refine qH ?_ _ | refine qI ?_ | refine qG ?_ _)); refine qP (cs := #[.slice none 0 0, .slice none 0 0, .int .i64 0, .int .i64 0]) ?_ 0 _ rfl; (with_reducible repeat (first | refine qH ?_ _ | refine qI ?_ | refine qG ?_ _)); exact BK293.out) NB293_0.out (by simp)); have n4_ := Aside0.mk (KeepBut.trans (by repeat (first | (with_reducible first | exact HK.out | apply KeepBut.set_ | apply qK | apply qO | apply qL | refine qQ ?_ GW283.out _ | refine qQ ?_ GW293.out _) | exact HK.out)) hk (.inl rfl)); have n5_ := Aside0.mk (hb); have n6_ := Aside0.mk (hi); clear BK283; clear HO286; clear HO289; clear BK293; clear HK; clear HB; clear HI0; have BK283 := n0_; have HO286 := n1_; have HO289 := n2_; have BK293 := n3_; have HK := n4_; have HB := n5_; have HI0 := n6_; clear n0_ n1_ n2_ n3_ n4_ n5_ n6_; (try clear hb); (try clear hb2); (try clear hk); (try clear hi); have hcz29_0 : w28.cell? ⟨gb293, 0, none⟩ = some (.slice Ao23 t284.length co23) := (qA BK293.out 0).trans rfl; have hcz29_1 : w28.cell? ⟨gb293, 1, none⟩ = some (.slice Ao27 t287.length co27) := (qA BK293.out 1).trans rfl; have hcz29_2 : w28.cell? ⟨gb293, 2, none⟩ = some (.int .i64 t290) := (qA BK293.out 2).trans rfl; have hcz29_3 : w28.cell? ⟨gb293, 3, none⟩ = some (.int .i64 t291) := (qA BK293.out 3).trans rfl; have hfz29_0 := qD BK293.out 0; have hfz29_1 := qD BK293.out 1; have hfz29_2 := qD BK293.out 2; have hfz29_3 := qD BK293.out 3; have hnb30 := NB283_0.out; have hnc30 := NB0_283.out; have hcz31_0 : w28.cell? ⟨gb283, 0, none⟩ = some (.slice none 0 0) := (qA BK283.out 0).trans rfl; have hcz31_1 : w28.cell? ⟨gb283, 1, none⟩ = some (.slice none 0 0) := (qA BK283.out 1).trans rfl; have hcz31_2 : w28.cell? ⟨gb283, 2, none⟩ = some (.int .i64 0) := (qA BK283.out 2).trans rfl; have hcz31_3 : w28.cell? ⟨gb283, 3, none⟩ = some (.int .i64 0) := (qA BK283.out 3).trans rfl; have hfz31_0 := qD BK283.out 0; have hfz31_1 := qD BK283.out 1; have hfz31_2 := qD BK283.out 2; have hfz31_3 := qD BK283.out 3))
      refine bodyPost_ret (results_cell_row rfl _ _ gb283 26 #[.slice Ao23 t284.length co23, .slice Ao27 t287.length co27, .int .i64 (-2), .int .i64 t291] (0, 0) _ rfl (by (with_reducible repeat (first | refine qH ?_ _ | refine qI ?_ | refine qG ?_ _)); refine qP (cs := #[.slice Ao23 t284.length co23, .slice Ao27 t287.length co27, .int .i64 (-2), .int .i64 0]) ?_ 3 _ rfl; (with_reducible repeat (first | refine qH ?_ _ | refine qI ?_ | refine qG ?_ _)); refine qP (cs := #[.slice Ao23 t284.length co23, .slice Ao27 t287.length co27, .int .i64 0, .int .i64 0]) ?_ 2 _ rfl; (with_reducible repeat (first | refine qH ?_ _ | refine qI ?_ | refine qG ?_ _)); refine qP (cs := #[.slice Ao23 t284.length co23, .slice none 0 0, .int .i64 0, .int .i64 0]) ?_ 1 _ rfl; (with_reducible repeat (first | refine qH ?_ _ | refine qI ?_ | refine qG ?_ _)); refine qP (cs := #[.slice none 0 0, .slice none 0 0, .int .i64 0, .int .i64 0]) ?_ 0 _ rfl; (with_reducible repeat (first | refine qH ?_ _ | refine qI ?_ | refine qG ?_ _)); refine qR ?_ NB283_293.out _; (with_reducible repeat (first | refine qH ?_ _ | refine qI ?_ | refine qG ?_ _)); exact BK283.out) Try.underlying26 rfl (by kernel_rfl)) rfl ?_
      exact ⟨_, _, by first | rfl | (simp [errW_none, errW_some] <;> rfl) | (simp [*, errW_none, errW_some] <;> rfl), Kd.Q_of_R (by (with_reducible repeat (first | apply Kd.qX | apply Kd.qV | apply Kd.qW)); exact Kd.qS (Kd.R_far (p := ⟨gb283, 3, none⟩) (Kd.R_far (p := ⟨gb283, 2, none⟩) (Kd.R_far (p := ⟨gb283, 1, none⟩) (Kd.R_far (p := ⟨gb283, 0, none⟩) (Kd.R_far (p := ⟨gb293, 2, none⟩) (Kd.qY (Kd.qY HO286.out BK293.out (by decide)) BK283.out (by decide)) (fun _ hk => hk.1.2) (.int .i64 (-2))) (fun _ hk => hk.2) (.slice Ao23 t284.length co23)) (fun _ hk => hk.2) (.slice Ao27 t287.length co27)) (fun _ hk => hk.2) (.int .i64 (-2))) (fun _ hk => hk.2) (.int .i64 t291)) (fun _ hk => trivial)), by (with_reducible repeat (first | apply Kd.qX | apply Kd.qV | apply Kd.qW)); exact Kd.qS (Kd.R_far (p := ⟨gb283, 3, none⟩) (Kd.R_far (p := ⟨gb283, 2, none⟩) (Kd.R_far (p := ⟨gb283, 1, none⟩) (Kd.R_far (p := ⟨gb283, 0, none⟩) (Kd.R_far (p := ⟨gb293, 2, none⟩) (Kd.qY (Kd.qY HO289.out BK293.out (by decide)) BK283.out (by decide)) (fun _ hk => hk.1.2) (.int .i64 (-2))) (fun _ hk => hk.2) (.slice Ao23 t284.length co23)) (fun _ hk => hk.2) (.slice Ao27 t287.length co27)) (fun _ hk => hk.2) (.int .i64 (-2))) (fun _ hk => hk.2) (.int .i64 t291)) (fun _ hk => trivial), by repeat (first | (with_reducible first | exact HI0.out | apply IsS83.alloc | apply IsS83.drewN | apply IsS83.drew | apply IsS83.set_1 | refine IsS83.far ?_ NB0_283.out _ | refine IsS83.far ?_ NB0_293.out _) | exact HI0.out), by repeat (first | (with_reducible first | exact HB.out | apply qF | apply qC | apply qE | refine qB ?_ (IsS83.ge HI0.out) | refine qB ?_ GE283.out | refine qB ?_ GE293.out) | exact HB.out), by repeat (first | (with_reducible first | exact HK.out | apply KeepBut.set_ | apply qK | apply qO | apply qL | refine qQ ?_ GW283.out _ | refine qQ ?_ GW293.out _) | exact HK.out)⟩
    · rw [if_neg c19] at H
      have c19b0 : (t294 == 1) = false := beq_eq_false_iff_ne.mpr c19
      have c19b1 : (t294 != 1) = true := bne_iff_ne.mpr c19
      by_cases c32 : t294 = 2
      · rw [if_pos c32] at H
        have c32b0 : (t294 == 2) = true := beq_iff_eq.mpr c32
        have c32b1 : (t294 != 2) = false := bne_eq_false_iff_eq.mpr c32
        clear c32
        obtain ⟨y299, hy299⟩ : ∃ y_ : List Int, y_ = (([(-1), 42] : List Int)) := ⟨_, rfl⟩
        replace H : ((spec_l1Rd_one.f k s0_0 t295 y299).bind fun bt302 => (if t287.length < 5864062014805 then (some (t284, (t287 ++ [(⟨bt302.1, (⟨#[]⟩ : ByteArray)⟩ : S70)]), t290, t291, bt302.2)) else (none))) = some (r1, r2, r3, r4, r5) := by first | (rw [hy299]; with_reducible exact H) | (have H2_ := (Option.bind_some _ _).symm.trans H; rw [hy299]; with_reducible exact H2_) | (have H2_ := (Option.bind_some _ _).symm.trans H; with_reducible exact H2_) | with_reducible exact H | (rw [hy299]; exact H) | exact H
        have Ny299 := Aside0.mk hy299
        clear hy299
        replace H := Option.bind_eq_some_iff.mp H
        obtain ⟨⟨t302, t303⟩, A330, H⟩ := H
        replace H : (if t287.length < 5864062014805 then (some (t284, (t287 ++ [(⟨t302, (⟨#[]⟩ : ByteArray)⟩ : S70)]), t290, t291, t303)) else (none)) = some (r1, r2, r3, r4, r5) := H
        have A33 := Aside0.mk A330
        clear A330
        by_cases c34 : t287.length < 5864062014805
        · rw [if_pos c34] at H
          have LMc34 := Aside0.mk c34
          clear c34
          obtain ⟨y304, hy304⟩ : ∃ y_ : List (S70), y_ = (t287 ++ [(⟨t302, (⟨#[]⟩ : ByteArray)⟩ : S70)]) := ⟨_, rfl⟩
          replace H : (some (t284, y304, t290, t291, t303)) = some (r1, r2, r3, r4, r5) := by first | (rw [hy304]; with_reducible exact H) | (have H2_ := (Option.bind_some _ _).symm.trans H; rw [hy304]; with_reducible exact H2_) | (have H2_ := (Option.bind_some _ _).symm.trans H; with_reducible exact H2_) | with_reducible exact H | (rw [hy304]; exact H) | exact H
          have Ny304 := Aside0.mk hy304
          clear hy304
          simp only [Option.some.injEq, Prod.mk.injEq] at H
          obtain ⟨rfl, rfl, rfl, rfl, rfl⟩ := H
          go_enter Try.func33, Try.ntmps33
          try go_wp2_with (first | ((with_reducible refine zB (N := 2) rfl ?_); refine qZ ?hg (N := 2) ?hd (cs := #[.slice none 0 0, .slice none 0 0, .int .i64 0, .int .i64 0]) (t := 26) ?hr ?_; (case hd => rfl); (case hg => rfl); (case hr => first | (go_simp; done) | (go_simp; rfl)); intro gb283 hg w35 hbox hb; have n0_ := Aside0.mk (IsS83.below (by repeat (first | (with_reducible first | exact HI0.out | apply IsS83.alloc | apply IsS83.drewN | apply IsS83.drew | apply IsS83.set_1) | exact HI0.out)) hb); have n1_ := Aside0.mk (KeepBut.trans (by repeat (first | (with_reducible first | exact HK.out | apply KeepBut.set_ | apply qK | apply qO | apply qL) | exact HK.out)) (KeepBut.of_below hb g none) (.inl rfl)); have n2_ := Aside0.mk (qN (by repeat (first | (with_reducible first | exact HB.out | apply qF | apply qC | apply qE | refine qB ?_ (IsS83.ge HI0.out)) | exact HB.out)) hb); have n3_ := Aside0.mk (hbox); have n4_ := Aside0.mk ((by rw [hg]; exact (zF (w := w) (g := g) (row := none) (by repeat (first | (with_reducible first | exact HK.out | apply KeepBut.set_ | apply qK | apply qO | apply qL) | exact HK.out))) : w.heap.size ≤ gb283)); have n5_ := Aside0.mk ((Nat.le_trans HW0.out (by rw [hg]; exact (zF (w := w) (g := g) (row := none) (by repeat (first | (with_reducible first | exact HK.out | apply KeepBut.set_ | apply qK | apply qO | apply qL) | exact HK.out))) : w.heap.size ≤ gb283) : w0.heap.size ≤ gb283)); have n6_ := Aside0.mk ((by rw [hg]; exact Nat.ne_of_lt (IsS83.lt (show IsS83 w0 _ g s0_0 s0_1 from by repeat (first | (with_reducible first | exact HI0.out | apply IsS83.alloc | apply IsS83.drewN | apply IsS83.drew | apply IsS83.set_1) | exact HI0.out))) : g ≠ gb283)); have n7_ := Aside0.mk ((by rw [hg]; exact Nat.ne_of_gt (IsS83.lt (show IsS83 w0 _ g s0_0 s0_1 from by repeat (first | (with_reducible first | exact HI0.out | apply IsS83.alloc | apply IsS83.drewN | apply IsS83.drew | apply IsS83.set_1) | exact HI0.out))) : gb283 ≠ g)); clear HI0; clear HK; clear HB; have HI0 := n0_; have HK := n1_; have HB := n2_; have BK283 := n3_; have GW283 := n4_; have GE283 := n5_; have NB0_283 := n6_; have NB283_0 := n7_; clear n0_ n1_ n2_ n3_ n4_ n5_ n6_ n7_; clear hb hbox hg) | ((with_reducible refine qT (f := 65) rfl ?_); refine zL (some 5) rfl rfl Try.func65 (by kernel_rfl) rfl #[.pointer (some ⟨g, 0, none⟩)] rfl (by (try simp only [List.map_toArray, List.map_cons, List.map_nil]); first | done | rfl | (simp only [List.length_drop, List.length_take]; rfl)) ?_; (with_reducible refine (spec_l15Disk.calls k g s0_0 s0_1 t284 t287 t290 t291 t292 w0 _ ?side1 ?side2 A2.out).mono ?_); (case side1 => repeat (first | (with_reducible first | exact HI0.out | apply IsS83.alloc | apply IsS83.drewN | apply IsS83.drew | apply IsS83.set_1 | refine IsS83.far ?_ NB0_283.out _) | exact HI0.out)); (case side2 => repeat (first | (with_reducible first | exact HB.out | apply qF | apply qC | apply qE | refine qB ?_ (IsS83.ge HI0.out) | refine qB ?_ GE283.out) | exact HB.out)); rintro e w36 ⟨v285, v288, rfl, ho0, ho1, hi, hb, hk⟩; refine ⟨_, rfl, ?_⟩; have n0_ := Aside0.mk (KeepBut.blk hk (g' := gb283) (o := .cells #[.slice none 0 0, .slice none 0 0, .int .i64 0, .int .i64 0] 26 (0, 0)) (bw_ BK283.out) NB283_0.out (by simp)); have n1_ := Aside0.mk (Kd.zJ ho0 (zF (w := w) (g := g) (row := none) (by repeat (first | (with_reducible first | exact HK.out | apply KeepBut.set_ | apply qK | apply qO | apply qL | refine qQ ?_ GW283.out _) | exact HK.out)))); have n2_ := Aside0.mk (Kd.zJ ho1 (zF (w := w) (g := g) (row := none) (by repeat (first | (with_reducible first | exact HK.out | apply KeepBut.set_ | apply qK | apply qO | apply qL | refine qQ ?_ GW283.out _) | exact HK.out)))); have n3_ := Aside0.mk (KeepBut.trans (by repeat (first | (with_reducible first | exact HK.out | apply KeepBut.set_ | apply qK | apply qO | apply qL | refine qQ ?_ GW283.out _) | exact HK.out)) hk (.inl rfl)); have n4_ := Aside0.mk (hb); have n5_ := Aside0.mk (hi); clear BK283; clear HK; clear HB; clear HI0; have BK283 := n0_; have HO286 := n1_; have HO289 := n2_; have HK := n3_; have HB := n4_; have HI0 := n5_; clear n0_ n1_ n2_ n3_ n4_ n5_; (try clear hb); (try clear hb2); (try clear hk); (try clear hi); (try clear ho0); (try clear ho1)) | ((with_reducible refine zB (N := 3) rfl ?_); refine qZ ?hg (N := 3) ?hd (cs := #[.slice none 0 0, .slice none 0 0, .int .i64 0, .int .i64 0]) (t := 26) ?hr ?_; (case hd => rfl); (case hg => rfl); (case hr => first | (go_simp; done) | (go_simp; rfl)); intro gb293 hg w37 hbox hb; have n0_ := Aside0.mk (Kd.qU (rw_ HO286.out) hb); have n1_ := Aside0.mk (Kd.qU (rw_ HO289.out) hb); have n2_ := Aside0.mk (IsS83.below (by repeat (first | (with_reducible first | exact HI0.out | apply IsS83.alloc | apply IsS83.drewN | apply IsS83.drew | apply IsS83.set_1 | refine IsS83.far ?_ NB0_283.out _) | exact HI0.out)) hb); have n3_ := Aside0.mk (qJ (g := gb283) (o := .cells #[.slice none 0 0, .slice none 0 0, .int .i64 0, .int .i64 0] 26 (0, 0)) (bw_ BK283.out) hb); have n4_ := Aside0.mk (KeepBut.trans (by repeat (first | (with_reducible first | exact HK.out | apply KeepBut.set_ | apply qK | apply qO | apply qL | refine qQ ?_ GW283.out _) | exact HK.out)) (KeepBut.of_below hb g none) (.inl rfl)); have n5_ := Aside0.mk (qN (by repeat (first | (with_reducible first | exact HB.out | apply qF | apply qC | apply qE | refine qB ?_ (IsS83.ge HI0.out) | refine qB ?_ GE283.out) | exact HB.out)) hb); have n6_ := Aside0.mk (hbox); have n7_ := Aside0.mk ((by rw [hg]; exact (zF (w := w) (g := g) (row := none) (by repeat (first | (with_reducible first | exact HK.out | apply KeepBut.set_ | apply qK | apply qO | apply qL | refine qQ ?_ GW283.out _) | exact HK.out))) : w.heap.size ≤ gb293)); have n8_ := Aside0.mk ((Nat.le_trans HW0.out (by rw [hg]; exact (zF (w := w) (g := g) (row := none) (by repeat (first | (with_reducible first | exact HK.out | apply KeepBut.set_ | apply qK | apply qO | apply qL | refine qQ ?_ GW283.out _) | exact HK.out))) : w.heap.size ≤ gb293) : w0.heap.size ≤ gb293)); have n9_ := Aside0.mk ((by rw [hg]; exact Nat.ne_of_lt (zE (g := gb283) (o := .cells #[.slice none 0 0, .slice none 0 0, .int .i64 0, .int .i64 0] 26 (0, 0)) (bw_ BK283.out)) : gb283 ≠ gb293)); have n10_ := Aside0.mk ((by rw [hg]; exact Nat.ne_of_gt (zE (g := gb283) (o := .cells #[.slice none 0 0, .slice none 0 0, .int .i64 0, .int .i64 0] 26 (0, 0)) (bw_ BK283.out)) : gb293 ≠ gb283)); have n11_ := Aside0.mk ((by rw [hg]; exact Nat.ne_of_lt (IsS83.lt (show IsS83 w0 _ g s0_0 t292 from by repeat (first | (with_reducible first | exact HI0.out | apply IsS83.alloc | apply IsS83.drewN | apply IsS83.drew | apply IsS83.set_1 | refine IsS83.far ?_ NB0_283.out _) | exact HI0.out))) : g ≠ gb293)); have n12_ := Aside0.mk ((by rw [hg]; exact Nat.ne_of_gt (IsS83.lt (show IsS83 w0 _ g s0_0 t292 from by repeat (first | (with_reducible first | exact HI0.out | apply IsS83.alloc | apply IsS83.drewN | apply IsS83.drew | apply IsS83.set_1 | refine IsS83.far ?_ NB0_283.out _) | exact HI0.out))) : gb293 ≠ g)); clear HO286; clear HO289; clear HI0; clear BK283; clear HK; clear HB; have HO286 := n0_; have HO289 := n1_; have HI0 := n2_; have BK283 := n3_; have HK := n4_; have HB := n5_; have BK293 := n6_; have GW293 := n7_; have GE293 := n8_; have NB283_293 := n9_; have NB293_283 := n10_; have NB0_293 := n11_; have NB293_0 := n12_; clear n0_ n1_ n2_ n3_ n4_ n5_ n6_ n7_ n8_ n9_ n10_ n11_ n12_; clear hb hbox hg; obtain ⟨Ao38, co38, eo38⟩ := Kd.zG HO286.out; subst eo38; have hnb39 := NB293_283.out; have hnc39 := NB283_293.out; have hnb40 := NB293_0.out; have hnc40 := NB0_293.out; have hcz41_0 : w37.cell? ⟨gb293, 0, none⟩ = some (.slice none 0 0) := (qA BK293.out 0).trans rfl; have hcz41_1 : w37.cell? ⟨gb293, 1, none⟩ = some (.slice none 0 0) := (qA BK293.out 1).trans rfl; have hcz41_2 : w37.cell? ⟨gb293, 2, none⟩ = some (.int .i64 0) := (qA BK293.out 2).trans rfl; have hcz41_3 : w37.cell? ⟨gb293, 3, none⟩ = some (.int .i64 0) := (qA BK293.out 3).trans rfl; have hfz41_0 := qD BK293.out 0; have hfz41_1 := qD BK293.out 1; have hfz41_2 := qD BK293.out 2; have hfz41_3 := qD BK293.out 3; obtain ⟨Ao42, co42, eo42⟩ := Kd.zG HO289.out; subst eo42) | ((with_reducible refine qT (f := 34) rfl ?_); refine zL (some 7) rfl rfl Try.func34 (by kernel_rfl) rfl #[.pointer (some ⟨g, 0, none⟩), .int .i64 24] rfl (by (try simp only [List.map_toArray, List.map_cons, List.map_nil]); first | done | rfl | (simp only [List.length_drop, List.length_take]; rfl)) ?_; (with_reducible refine (spec_l1Rd_pick.calls k g s0_0 t292 24 t294 t295 w0 _ ?side1 ?side2 A3.out).mono ?_); (case side1 => repeat (first | (with_reducible first | exact HI0.out | apply IsS83.alloc | apply IsS83.drewN | apply IsS83.drew | apply IsS83.set_1 | refine IsS83.far ?_ NB0_283.out _ | refine IsS83.far ?_ NB0_293.out _) | exact HI0.out)); (case side2 => repeat (first | (with_reducible first | exact HB.out | apply qF | apply qC | apply qE | refine qB ?_ (IsS83.ge HI0.out) | refine qB ?_ GE283.out | refine qB ?_ GE293.out) | exact HB.out)); rintro e w43 ⟨rfl, hi, hb, hk⟩; refine ⟨_, rfl, ?_⟩; have n0_ := Aside0.mk (KeepBut.blk hk (g' := gb283) (o := .cells #[.slice none 0 0, .slice none 0 0, .int .i64 0, .int .i64 0] 26 (0, 0)) (by (with_reducible repeat (first | refine qH ?_ _ | refine qI ?_ | refine qG ?_ _)); refine qR ?_ NB283_293.out _; (with_reducible repeat (first | refine qH ?_ _ | refine qI ?_ | refine qG ?_ _)); refine qR ?_ NB283_293.out _; (with_reducible repeat (first | refine qH ?_ _ | refine qI ?_ | refine qG ?_ _)); refine qR ?_ NB283_293.out _; (with_reducible repeat (first | refine qH ?_ _ | refine qI ?_ | refine qG ?_ _)); refine qR ?_ NB283_293.out _; (with_reducible repeat (first | refine qH ?_ _ | refine qI ?_ | refine qG ?_ _)); exact BK283.out) NB283_0.out (by simp)); have n1_ := Aside0.mk (Kd.qS (Kd.zM (IsS83.apart (show IsS83 w0 _ g s0_0 t292 from by repeat (first | (with_reducible first | exact HI0.out | apply IsS83.alloc | apply IsS83.drewN | apply IsS83.drew | apply IsS83.set_1 | refine IsS83.far ?_ NB0_283.out _ | refine IsS83.far ?_ NB0_293.out _) | exact HI0.out)) (by (with_reducible repeat (first | apply Kd.qX | apply Kd.qV | apply Kd.qW)); exact (Kd.qS (Kd.R_far (p := ⟨gb293, 3, none⟩) (Kd.R_far (p := ⟨gb293, 2, none⟩) (Kd.R_far (p := ⟨gb293, 1, none⟩) (Kd.R_far (p := ⟨gb293, 0, none⟩) (Kd.qY HO286.out BK293.out (by decide)) (fun _ hk => hk.2) (.slice Ao38 t284.length co38)) (fun _ hk => hk.2) (.slice Ao42 t287.length co42)) (fun _ hk => hk.2) (.int .i64 t290)) (fun _ hk => hk.2) (.int .i64 t291)) (fun _ h_ => h_.1))) (by decide)) hk (fun _ h => h.2)) (fun _ h => h.1)); have n2_ := Aside0.mk (Kd.qS (Kd.zM (IsS83.apart (show IsS83 w0 _ g s0_0 t292 from by repeat (first | (with_reducible first | exact HI0.out | apply IsS83.alloc | apply IsS83.drewN | apply IsS83.drew | apply IsS83.set_1 | refine IsS83.far ?_ NB0_283.out _ | refine IsS83.far ?_ NB0_293.out _) | exact HI0.out)) (by (with_reducible repeat (first | apply Kd.qX | apply Kd.qV | apply Kd.qW)); exact (Kd.qS (Kd.R_far (p := ⟨gb293, 3, none⟩) (Kd.R_far (p := ⟨gb293, 2, none⟩) (Kd.R_far (p := ⟨gb293, 1, none⟩) (Kd.R_far (p := ⟨gb293, 0, none⟩) (Kd.qY HO289.out BK293.out (by decide)) (fun _ hk => hk.2) (.slice Ao38 t284.length co38)) (fun _ hk => hk.2) (.slice Ao42 t287.length co42)) (fun _ hk => hk.2) (.int .i64 t290)) (fun _ hk => hk.2) (.int .i64 t291)) (fun _ h_ => h_.1))) (by decide)) hk (fun _ h => h.2)) (fun _ h => h.1)); have n3_ := Aside0.mk (KeepBut.blk hk (g' := gb293) (o := .cells #[.slice Ao38 t284.length co38, .slice Ao42 t287.length co42, .int .i64 t290, .int .i64 t291] 26 (0, 0)) (by (with_reducible repeat (first | refine qH ?_ _ | refine qI ?_ | refine qG ?_ _)); refine qP (cs := #[.slice Ao38 t284.length co38, .slice Ao42 t287.length co42, .int .i64 t290, .int .i64 0]) ?_ 3 _ rfl; (with_reducible repeat (first | refine qH ?_ _ | refine qI ?_ | refine qG ?_ _)); refine qP (cs := #[.slice Ao38 t284.length co38, .slice Ao42 t287.length co42, .int .i64 0, .int .i64 0]) ?_ 2 _ rfl; (with_reducible repeat (first | refine qH ?_ _ | refine qI ?_ | refine qG ?_ _)); refine qP (cs := #[.slice Ao38 t284.length co38, .slice none 0 0, .int .i64 0, .int .i64 0]) ?_ 1 _ rfl; (with_reducible repeat (first | refine qH ?_ _ | refine qI ?_ | refine qG ?_ _)); refine qP (cs := #[.slice none 0 0, .slice none 0 0, .int .i64 0, .int .i64 0]) ?_ 0 _ rfl; (with_reducible repeat (first | refine qH ?_ _ | refine qI ?_ | refine qG ?_ _)); exact BK293.out) NB293_0.out (by simp)); have n4_ := Aside0.mk (KeepBut.trans (by repeat (first | (with_reducible first | exact HK.out | apply KeepBut.set_ | apply qK | apply qO | apply qL | refine qQ ?_ GW283.out _ | refine qQ ?_ GW293.out _) | exact HK.out)) hk (.inl rfl)); have n5_ := Aside0.mk (hb); have n6_ := Aside0.mk (hi); clear BK283; clear HO286; clear HO289; clear BK293; clear HK; clear HB; clear HI0; have BK283 := n0_; have HO286 := n1_; have HO289 := n2_; have BK293 := n3_; have HK := n4_; have HB := n5_; have HI0 := n6_; clear n0_ n1_ n2_ n3_ n4_ n5_ n6_; (try clear hb); (try clear hb2); (try clear hk); (try clear hi)))
          have n0_ := Aside0.mk (Kd.qW HO286.out)
          have n1_ := Aside0.mk (Kd.qW HO289.out)
          have n2_ := Aside0.mk (qI BK283.out)
          have n3_ := Aside0.mk (qI BK293.out)
          have n4_ := Aside0.mk (IsS83.drew HI0.out)
          have n5_ := Aside0.mk (qO HK.out)
          have n6_ := Aside0.mk (qE HB.out)
          clear HO286
          clear HO289
          clear BK283
          clear BK293
          clear HI0
          clear HK
          clear HB
          have HO286 := n0_
          have HO289 := n1_
          have BK283 := n2_
          have BK293 := n3_
          have HI0 := n4_
          have HK := n5_
          have HB := n6_
          clear n0_ n1_ n2_ n3_ n4_ n5_ n6_
          refine start_ (n := 10) (S := fun w' => w'.cell? ⟨gb293, 0, none⟩ = some (.slice Ao38 t284.length co38) ∧ w'.cell? ⟨gb293, 1, none⟩ = some (.slice Ao42 t287.length co42) ∧ w'.cell? ⟨gb293, 2, none⟩ = some (.int .i64 t290) ∧ w'.cell? ⟨gb293, 3, none⟩ = some (.int .i64 t291)) (ds := [9]) #[false, false, false, false, false, false, false, false, false, false] (by kernel_rfl) rfl rfl ⟨(qA BK293.out 0).trans rfl, (qA BK293.out 1).trans rfl, (qA BK293.out 2).trans rfl, (qA BK293.out 3).trans rfl⟩ (fun hHeld => ?_); refine with_tabW spec_l15AnyDisk.tab8 spec_l15AnyDisk.bits8 (fun HT_ HW_ => ?_)
          generalize w43.drew = w44 at HO286 HO289 BK283 BK293 HI0 HK HB hHeld ⊢
          refine pure_ (i := 0) (N := some 19) (v := ?_) (a' := ?_) #[true, false, false, false, false, false, false, false, false, false] rfl rfl (zK HT_.out (by kernel_rfl)) (fun _ _ _ h => h) (Or.inl ⟨by rfl, ?_⟩) ?_ ?_
          rotate_left
          · intro w'
            go_simp
            with_reducible rfl
          rotate_left
          · simp only [Act.put, List.setIfInBounds_toArray, List.set_cons_zero, List.set_cons_succ, i64_w, i32_w]
            rfl
          refine pure_ (i := 2) (N := some 21) (v := ?_) (a' := ?_) #[true, false, true, false, false, false, false, false, false, false] rfl rfl (zK HT_.out (by kernel_rfl)) (fun _ _ _ h => h) (Or.inl ⟨by rfl, ?_⟩) ?_ ?_
          rotate_left
          · intro w'
            go_simp
            with_reducible rfl
          rotate_left
          · simp only [Act.put, List.setIfInBounds_toArray, List.set_cons_zero, List.set_cons_succ, i64_w, i32_w]
            rfl
          refine take_ (i := 1) (N := some 20) (v := ?_) (a' := ?_) #[true, true, true, false, false, false, false, false, false, false] rfl rfl (zN HT_.out HW_.out (by kernel_rfl)) (fun _ _ _ h => h) (Or.inl ⟨by rfl, ?_⟩) hHeld ?_ ?_
          rotate_left
          · rintro w' ⟨s0, s1, s2, s3⟩
            go_simp
            with_reducible rfl
          rotate_left
          · simp only [Act.put, List.setIfInBounds_toArray, List.set_cons_zero, List.set_cons_succ, i64_w, i32_w]
            rfl
          refine one_ (i := 3) (N := some 22) #[true, true, true, true, false, false, false, false, false, false] rfl rfl (zR HT_.out (by kernel_rfl)) (by decide) (fun K hK => ?_)
          refine Kd.R_lit_step (Kd.int .i64) _ 3 ?hg (N := 22) ?hd (xs := ([(-1), 42] : List Int)) (inner := [.int .i64 (-1), .int .i64 42]) (ok := fun _ => True) (okp := fun _ => True) ?hr ?hp (fun _ hk => hk) trivial (Below.refl _ _) (Nat.le_refl _) (by simp) ?_; (case hd => rfl); (case hg => rfl); (case hr => first | (go_simp; done) | (go_simp; rfl)); (case hp => exact (Reps.one (show Kd.M (Kd.int .i64) _ _ _ (-1) [.int .i64 (-1)] from rfl) (Reps.one (show Kd.M (Kd.int .i64) _ _ _ 42 [.int .i64 42] from rfl) (Reps.none _ _))))
          intro v300 w45 ho46 hb hg_ hnew_
          clear hg_ hnew_
          (first | rw [← Ny299.out] at ho46 | (simp only [Int.reduceToNat] at ho46; rw [← Ny299.out] at ho46))
          have n0_ := Aside0.mk (Kd.qU (rw_ HO286.out) hb)
          have n1_ := Aside0.mk (Kd.qU (rw_ HO289.out) hb)
          have n2_ := Aside0.mk (Kd.zJ ho46 (zF (w := w) (g := g) (row := none) (by repeat (first | (with_reducible first | exact HK.out | apply KeepBut.set_ | apply qK | apply qO | apply qL | refine qQ ?_ GW283.out _ | refine qQ ?_ GW293.out _) | exact HK.out))))
          have n3_ := Aside0.mk (IsS83.below (by repeat (first | (with_reducible first | exact HI0.out | apply IsS83.alloc | apply IsS83.drewN | apply IsS83.drew | apply IsS83.set_1 | refine IsS83.far ?_ NB0_283.out _ | refine IsS83.far ?_ NB0_293.out _) | exact HI0.out)) hb)
          have n4_ := Aside0.mk (qJ (g := gb283) (o := .cells #[.slice none 0 0, .slice none 0 0, .int .i64 0, .int .i64 0] 26 (0, 0)) (bw_ BK283.out) hb)
          have n5_ := Aside0.mk (qJ (g := gb293) (o := .cells #[.slice Ao38 t284.length co38, .slice Ao42 t287.length co42, .int .i64 t290, .int .i64 t291] 26 (0, 0)) (bw_ BK293.out) hb)
          have n6_ := Aside0.mk (KeepBut.trans (by repeat (first | (with_reducible first | exact HK.out | apply KeepBut.set_ | apply qK | apply qO | apply qL | refine qQ ?_ GW283.out _ | refine qQ ?_ GW293.out _) | exact HK.out)) (KeepBut.of_below hb g none) (.inl rfl))
          have n7_ := Aside0.mk (qN (by repeat (first | (with_reducible first | exact HB.out | apply qF | apply qC | apply qE | refine qB ?_ (IsS83.ge HI0.out) | refine qB ?_ GE283.out | refine qB ?_ GE293.out) | exact HB.out)) hb)
          clear HO286
          clear HO289
          clear HI0
          clear BK283
          clear BK293
          clear HK
          clear HB
          have HO286 := n0_
          have HO289 := n1_
          have HO301 := n2_
          have HI0 := n3_
          have BK283 := n4_
          have BK293 := n5_
          have HK := n6_
          have HB := n7_
          clear n0_ n1_ n2_ n3_ n4_ n5_ n6_ n7_
          clear hb ho46
          obtain ⟨Ao47, co47, eo47⟩ := Kd.zG HO301.out
          (first | subst eo47 | (injection eo47 with f1_ f2_ f3_; have f4_ := f1_.symm; have f5_ := f3_.symm; clear f1_ f2_ f3_; subst f4_; subst f5_))
          refine hK.out _ _ ⟨(qA BK293.out 0).trans rfl, (qA BK293.out 1).trans rfl, (qA BK293.out 2).trans rfl, (qA BK293.out 3).trans rfl⟩ (fun hHeld => ?_)
          clear hK K
          refine norm_ (a' := ?_) ?_ ?_
          rotate_left
          · show Act.put _ (some 22) _ = _
            simp only [Act.put, List.setIfInBounds_toArray, List.set_cons_zero, List.set_cons_succ, i64_w, i32_w]
            rfl
          refine one_ (i := 4) (N := some 23) #[true, true, true, true, true, false, false, false, false, false] rfl rfl (zR HT_.out (by kernel_rfl)) (by decide) (fun K hK => ?_)
          refine goes_ Try.func40 (by kernel_rfl) rfl #[.pointer (some ⟨g, 0, none⟩), .slice Ao47 y299.length co47] (by rfl) rfl rfl (by (try simp only [List.map_toArray, List.map_cons, List.map_nil]); first | done | rfl | (simp only [List.length_drop, List.length_take]; rfl)) ?_
          with_reducible refine (spec_l1Rd_one.calls k g s0_0 t295 _ _ y299 t302 t303 w0 _ ?side1 ?side2 ?side3 ?side4 ?side5 A33.out).mono ?_
          (case side1 => repeat (first | (with_reducible first | exact HI0.out | apply IsS83.alloc | apply IsS83.drewN | apply IsS83.drew | apply IsS83.set_1 | refine IsS83.far ?_ NB0_283.out _ | refine IsS83.far ?_ NB0_293.out _) | exact HI0.out))
          (case side2 => repeat (first | (with_reducible first | exact HB.out | apply qF | apply qC | apply qE | refine qB ?_ (IsS83.ge HI0.out) | refine qB ?_ GE283.out | refine qB ?_ GE293.out) | exact HB.out))
          (case side3 => repeat (first | exact (Kd.zA HO301.out).2.2 | (with_reducible refine Kd.zC ?_ _) | (with_reducible refine Kd.zD ?_ _) | (with_reducible refine Kd.zH ?_)))
          (case side4 => exact (Kd.zA HO301.out).2.1)
          (case side5 => exact far_slice (IsS83.own_ne HI0.out HO301.out (by decide)))
          rintro e w48 ⟨rfl, hi, hb, hk⟩
          refine ⟨_, rfl, ?_⟩
          have n0_ := Aside0.mk (KeepBut.blk hk (g' := gb283) (o := .cells #[.slice none 0 0, .slice none 0 0, .int .i64 0, .int .i64 0] 26 (0, 0)) (bw_ BK283.out) NB283_0.out (by simp))
          have n1_ := Aside0.mk (Kd.qS (Kd.zM (IsS83.apart (show IsS83 w0 _ g s0_0 t295 from by repeat (first | (with_reducible first | exact HI0.out | apply IsS83.alloc | apply IsS83.drewN | apply IsS83.drew | apply IsS83.set_1 | refine IsS83.far ?_ NB0_283.out _ | refine IsS83.far ?_ NB0_293.out _) | exact HI0.out)) (rw_ HO286.out) (by decide)) hk (fun _ h => h.2)) (fun _ h => h.1))
          have n2_ := Aside0.mk (Kd.qS (Kd.zM (IsS83.apart (show IsS83 w0 _ g s0_0 t295 from by repeat (first | (with_reducible first | exact HI0.out | apply IsS83.alloc | apply IsS83.drewN | apply IsS83.drew | apply IsS83.set_1 | refine IsS83.far ?_ NB0_283.out _ | refine IsS83.far ?_ NB0_293.out _) | exact HI0.out)) (rw_ HO289.out) (by decide)) hk (fun _ h => h.2)) (fun _ h => h.1))
          have n3_ := Aside0.mk (KeepBut.blk hk (g' := gb293) (o := .cells #[.slice Ao38 t284.length co38, .slice Ao42 t287.length co42, .int .i64 t290, .int .i64 t291] 26 (0, 0)) (bw_ BK293.out) NB293_0.out (by simp))
          have n4_ := Aside0.mk (Kd.qS (Kd.zM (IsS83.apart (show IsS83 w0 _ g s0_0 t295 from by repeat (first | (with_reducible first | exact HI0.out | apply IsS83.alloc | apply IsS83.drewN | apply IsS83.drew | apply IsS83.set_1 | refine IsS83.far ?_ NB0_283.out _ | refine IsS83.far ?_ NB0_293.out _) | exact HI0.out)) (rw_ HO301.out) (by decide)) hk (fun _ h => h.2)) (fun _ h => h.1))
          have n5_ := Aside0.mk (KeepBut.trans (by repeat (first | (with_reducible first | exact HK.out | apply KeepBut.set_ | apply qK | apply qO | apply qL | refine qQ ?_ GW283.out _ | refine qQ ?_ GW293.out _) | exact HK.out)) hk (.inl rfl))
          have n6_ := Aside0.mk (hb)
          have n7_ := Aside0.mk (hi)
          clear BK283
          clear HO286
          clear HO289
          clear BK293
          clear HO301
          clear HK
          clear HB
          clear HI0
          have BK283 := n0_
          have HO286 := n1_
          have HO289 := n2_
          have BK293 := n3_
          have HO301 := n4_
          have HK := n5_
          have HB := n6_
          have HI0 := n7_
          clear n0_ n1_ n2_ n3_ n4_ n5_ n6_ n7_
          (try clear hb)
          (try clear hb2)
          (try clear hk)
          (try clear hi)
          refine hK.out _ _ ⟨(qA BK293.out 0).trans rfl, (qA BK293.out 1).trans rfl, (qA BK293.out 2).trans rfl, (qA BK293.out 3).trans rfl⟩ (fun hHeld => ?_)
          clear hK K
          refine norm_ (a' := ?_) ?_ ?_
          rotate_left
          · show Act.put _ (some 23) _ = _
            simp only [Act.put, List.setIfInBounds_toArray, List.set_cons_zero, List.set_cons_succ, i64_w, i32_w]
            rfl
          refine pure_ (i := 5) (N := some 24) (v := ?_) (a' := ?_) #[true, true, true, true, true, true, false, false, false, false] rfl rfl (zK HT_.out (by kernel_rfl)) (fun _ _ _ h => h) (Or.inl ⟨by rfl, ?_⟩) ?_ ?_
          rotate_left
          · intro w'
            go_simp
            with_reducible rfl
          rotate_left
          · simp only [Act.put, List.setIfInBounds_toArray, List.set_cons_zero, List.set_cons_succ, i64_w, i32_w]
            rfl
          refine one_ (i := 6) (N := some 25) #[true, true, true, true, true, true, true, false, false, false] rfl rfl (zR HT_.out (by kernel_rfl)) (by decide) (fun K hK => ?_)
          refine value_ (w1 := ?_) (v := ?_) (by rfl) rfl ?_ ?_
          rotate_left 2
          · go_simp
            constructor
            · rfl
            · rfl
          refine hK.out _ _ ⟨(qA (qG BK293.out _) 0).trans rfl, (qA (qG BK293.out _) 1).trans rfl, (qA (qG BK293.out _) 2).trans rfl, (qA (qG BK293.out _) 3).trans rfl⟩ (fun hHeld => ?_)
          clear hK K
          refine norm_ (a' := ?_) ?_ ?_
          rotate_left
          · show Act.put _ (some 25) _ = _
            simp only [Act.put, List.setIfInBounds_toArray, List.set_cons_zero, List.set_cons_succ, i64_w, i32_w]
            rfl
          refine one_ (i := 7) (N := some 26) #[true, true, true, true, true, true, true, true, false, false] rfl rfl (zR HT_.out (by kernel_rfl)) (by decide) (fun K hK => ?_)
          refine Kd.R_append_step k70 w.heap.size (by rfl) (.tmp 20) (.tmp 25) 24 70 (.agg #[(.int .i64 0), (.string ⟨#[]⟩)]) 24 rfl Try.underlying24 info70 rfl (by decide) (by omega) (.slice Ao42 t287.length co42) t287 (⟨t302, (⟨#[]⟩ : ByteArray)⟩ : S70) [.int .i64 t302, .string (⟨#[]⟩ : ByteArray)] (fun _ => True) (fun _ => False) rfl rfl ?aP (fun _ hk => hk.elim) ?aF ?aO (Below.refl _ _) ?aS ?aL ?_
          (case aP => exact k70_mkM _ _ _ (⟨t302, (⟨#[]⟩ : ByteArray)⟩ : S70))
          (case aF => exact (fun _ _ => trivial))
          (case aO => exact (rw_ HO289.out))
          (case aS => exact (zF (w := w) (g := g) (row := none) (by repeat (first | (with_reducible first | exact HK.out | apply KeepBut.set_ | apply qK | apply qO | apply qL | refine qQ ?_ GW283.out _ | refine qQ ?_ GW293.out _) | exact HK.out))))
          (case aL => have := LMc34.out; omega)
          intro v305 w49 ho hb hg hat
          rw [← Ny304.out] at ho
          have n0_ := Aside0.mk (IsS83.grown (by repeat (first | (with_reducible first | exact HI0.out | apply IsS83.alloc | apply IsS83.drewN | apply IsS83.drew | apply IsS83.set_1 | refine IsS83.far ?_ NB0_283.out _ | refine IsS83.far ?_ NB0_293.out _) | exact HI0.out)) hg (IsS83.own_ne HI0.out HO289.out (by decide)))
          have n1_ := Aside0.mk (zT (g := gb283) (o := .cells #[.slice none 0 0, .slice none 0 0, .int .i64 0, .int .i64 0] 26 (0, 0)) (bw_ BK283.out) hg (Kd.R_ne HO289.out BK283.out (by decide)))
          have n2_ := Aside0.mk (Kd.R_over' (rw_ HO286.out) (Kd.R_typed (rw_ HO289.out)) (by decide) hg)
          have n3_ := Aside0.mk (zT (g := gb293) (o := .cells #[.slice Ao38 t284.length co38, .slice Ao42 t287.length co42, .int .i64 t290, .int .i64 t291] 26 (0, 0)) (bw_ BK293.out) hg (Kd.R_ne HO289.out BK293.out (by decide)))
          have n4_ := Aside0.mk (Kd.R_over' (rw_ HO301.out) (Kd.R_typed (rw_ HO289.out)) (by decide) hg)
          have n5_ := Aside0.mk (below_weaken (by repeat (first | (with_reducible first | exact HB.out | apply qF | apply qC | apply qE | refine qB ?_ (IsS83.ge HI0.out) | refine qB ?_ GE283.out | refine qB ?_ GE293.out) | exact HB.out)) HL.out hb)
          have n6_ := Aside0.mk (KeepBut.trans (by repeat (first | (with_reducible first | exact HK.out | apply KeepBut.set_ | apply qK | apply qO | apply qL | refine qQ ?_ GW283.out _ | refine qQ ?_ GW293.out _) | exact HK.out)) (KeepBut.of_grown hg g) (Kd.R_base2 HO289.out))
          have n7_ := Aside0.mk (ho)
          clear HI0
          clear BK283
          clear HO286
          clear BK293
          clear HO301
          clear HB
          clear HK
          clear HO289
          have HI0 := n0_
          have BK283 := n1_
          have HO286 := n2_
          have BK293 := n3_
          have HO301 := n4_
          have HB := n5_
          have HK := n6_
          have HO306 := n7_
          clear n0_ n1_ n2_ n3_ n4_ n5_ n6_ n7_
          clear ho hb hg hat
          obtain ⟨Ao50, co50, eo50⟩ := Kd.zG HO306.out
          (first | subst eo50 | (injection eo50 with f1_ f2_ f3_; have f4_ := f1_.symm; have f5_ := f3_.symm; clear f1_ f2_ f3_; subst f4_; subst f5_))
          refine hK.out _ _ ⟨(qA BK293.out 0).trans rfl, (qA BK293.out 1).trans rfl, (qA BK293.out 2).trans rfl, (qA BK293.out 3).trans rfl⟩ (fun hHeld => ?_)
          clear hK K
          refine norm_ (a' := ?_) ?_ ?_
          rotate_left
          · show Act.put _ (some 26) _ = _
            simp only [Act.put, List.setIfInBounds_toArray, List.set_cons_zero, List.set_cons_succ, i64_w, i32_w]
            rfl
          refine pure_ (i := 8) (N := some 27) (v := ?_) (a' := ?_) #[true, true, true, true, true, true, true, true, true, false] rfl rfl (zK HT_.out (by kernel_rfl)) (fun _ _ _ h => h) (Or.inl ⟨by rfl, ?_⟩) ?_ ?_
          rotate_left
          · intro w'
            go_simp
            with_reducible rfl
          rotate_left
          · simp only [Act.put, List.setIfInBounds_toArray, List.set_cons_zero, List.set_cons_succ, i64_w, i32_w]
            rfl
          refine last_ (i := 9) (N := none) #[true, true, true, true, true, true, true, true, true, true] rfl rfl (zR HT_.out (by kernel_rfl)) (by decide) (fun K hK => ?_)
          have hs51 : w49.cell? ⟨gb293, 1, none⟩ = some (.slice Ao42 t287.length co42) := (qA BK293.out 1).trans rfl
          have hfs51 := qD BK293.out 1
          have hns51_0 := NB283_293.out
          have hms51_0 := NB293_283.out
          refine skip_ (w1 := ?_) (by rfl) rfl ?_ ?_
          rotate_left
          · go_simp
            rfl
          refine hK.out _ _ ?_
          clear hK K
          refine done_ (done_of HT_.out (by kernel_rfl)) ?_
          have hcz52_0 : w49.cell? ⟨gb293, 0, none⟩ = some (.slice Ao38 t284.length co38) := (qA BK293.out 0).trans rfl
          have hcz52_1 : w49.cell? ⟨gb293, 1, none⟩ = some (.slice Ao42 t287.length co42) := (qA BK293.out 1).trans rfl
          have hcz52_2 : w49.cell? ⟨gb293, 2, none⟩ = some (.int .i64 t290) := (qA BK293.out 2).trans rfl
          have hcz52_3 : w49.cell? ⟨gb293, 3, none⟩ = some (.int .i64 t291) := (qA BK293.out 3).trans rfl
          have hfz52_0 := qD BK293.out 0
          have hfz52_1 := qD BK293.out 1
          have hfz52_2 := qD BK293.out 2
          have hfz52_3 := qD BK293.out 3
          have hnb53 := NB283_0.out
          have hnc53 := NB0_283.out
          have hcz54_0 : w49.cell? ⟨gb283, 0, none⟩ = some (.slice none 0 0) := (qA BK283.out 0).trans rfl
          have hcz54_1 : w49.cell? ⟨gb283, 1, none⟩ = some (.slice none 0 0) := (qA BK283.out 1).trans rfl
          have hcz54_2 : w49.cell? ⟨gb283, 2, none⟩ = some (.int .i64 0) := (qA BK283.out 2).trans rfl
          have hcz54_3 : w49.cell? ⟨gb283, 3, none⟩ = some (.int .i64 0) := (qA BK283.out 3).trans rfl
          have hfz54_0 := qD BK283.out 0
          have hfz54_1 := qD BK283.out 1
          have hfz54_2 := qD BK283.out 2
          have hfz54_3 := qD BK283.out 3
          try go_wp2
          refine bodyPost_ret (results_cell_row rfl _ _ gb283 26 #[.slice Ao38 t284.length co38, .slice Ao50 y304.length co50, .int .i64 t290, .int .i64 t291] (0, 0) _ rfl (by (with_reducible repeat (first | refine qH ?_ _ | refine qI ?_ | refine qG ?_ _)); refine qP (cs := #[.slice Ao38 t284.length co38, .slice Ao50 y304.length co50, .int .i64 t290, .int .i64 0]) ?_ 3 _ rfl; (with_reducible repeat (first | refine qH ?_ _ | refine qI ?_ | refine qG ?_ _)); refine qP (cs := #[.slice Ao38 t284.length co38, .slice Ao50 y304.length co50, .int .i64 0, .int .i64 0]) ?_ 2 _ rfl; (with_reducible repeat (first | refine qH ?_ _ | refine qI ?_ | refine qG ?_ _)); refine qP (cs := #[.slice Ao38 t284.length co38, .slice none 0 0, .int .i64 0, .int .i64 0]) ?_ 1 _ rfl; (with_reducible repeat (first | refine qH ?_ _ | refine qI ?_ | refine qG ?_ _)); refine qP (cs := #[.slice none 0 0, .slice none 0 0, .int .i64 0, .int .i64 0]) ?_ 0 _ rfl; (with_reducible repeat (first | refine qH ?_ _ | refine qI ?_ | refine qG ?_ _)); refine qR ?_ NB283_293.out _; (with_reducible repeat (first | refine qH ?_ _ | refine qI ?_ | refine qG ?_ _)); exact BK283.out) Try.underlying26 rfl (by kernel_rfl)) rfl ?_
          exact ⟨_, _, by first | rfl | (simp [errW_none, errW_some] <;> rfl) | (simp [*, errW_none, errW_some] <;> rfl), Kd.Q_of_R (by (with_reducible repeat (first | apply Kd.qX | apply Kd.qV | apply Kd.qW)); exact Kd.qS (Kd.R_far (p := ⟨gb283, 3, none⟩) (Kd.R_far (p := ⟨gb283, 2, none⟩) (Kd.R_far (p := ⟨gb283, 1, none⟩) (Kd.R_far (p := ⟨gb283, 0, none⟩) (Kd.R_far (p := ⟨gb293, 1, none⟩) (Kd.qY (Kd.qY HO286.out BK293.out (by decide)) BK283.out (by decide)) (fun _ hk => hk.1.2) (.slice Ao50 y304.length co50)) (fun _ hk => hk.2) (.slice Ao38 t284.length co38)) (fun _ hk => hk.2) (.slice Ao50 y304.length co50)) (fun _ hk => hk.2) (.int .i64 t290)) (fun _ hk => hk.2) (.int .i64 t291)) (fun _ hk => trivial)), by (with_reducible repeat (first | apply Kd.qX | apply Kd.qV | apply Kd.qW)); exact Kd.qS (Kd.R_far (p := ⟨gb283, 3, none⟩) (Kd.R_far (p := ⟨gb283, 2, none⟩) (Kd.R_far (p := ⟨gb283, 1, none⟩) (Kd.R_far (p := ⟨gb283, 0, none⟩) (Kd.R_far (p := ⟨gb293, 1, none⟩) (Kd.qY (Kd.qY HO306.out BK293.out (by decide)) BK283.out (by decide)) (fun _ hk => hk.1.2) (.slice Ao50 y304.length co50)) (fun _ hk => hk.2) (.slice Ao38 t284.length co38)) (fun _ hk => hk.2) (.slice Ao50 y304.length co50)) (fun _ hk => hk.2) (.int .i64 t290)) (fun _ hk => hk.2) (.int .i64 t291)) (fun _ hk => trivial), by repeat (first | (with_reducible first | exact HI0.out | apply IsS83.alloc | apply IsS83.drewN | apply IsS83.drew | apply IsS83.set_1 | refine IsS83.far ?_ NB0_283.out _ | refine IsS83.far ?_ NB0_293.out _) | exact HI0.out), by repeat (first | (with_reducible first | exact HB.out | apply qF | apply qC | apply qE | refine qB ?_ (IsS83.ge HI0.out) | refine qB ?_ GE283.out | refine qB ?_ GE293.out) | exact HB.out), by repeat (first | (with_reducible first | exact HK.out | apply KeepBut.set_ | apply qK | apply qO | apply qL | refine qQ ?_ GW283.out _ | refine qQ ?_ GW293.out _) | exact HK.out)⟩
        · rw [if_neg c34] at H
          exact absurd H (by simp)
      · rw [if_neg c32] at H
        have c32b0 : (t294 == 2) = false := beq_eq_false_iff_ne.mpr c32
        have c32b1 : (t294 != 2) = true := bne_iff_ne.mpr c32
        by_cases c55 : t294 = 3
        · rw [if_pos c55] at H
          have c55b0 : (t294 == 3) = true := beq_iff_eq.mpr c55
          have c55b1 : (t294 != 3) = false := bne_eq_false_iff_eq.mpr c55
          clear c55
          replace H := Option.bind_eq_some_iff.mp H
          obtain ⟨t307, A560, H⟩ := H
          replace H : (if 0 < (t284.length : Int) then (some ((t284.set (0 : Int).toNat t307), t287, t290, t291, t295)) else (none)) = some (r1, r2, r3, r4, r5) := H
          have A56 := Aside0.mk A560
          clear A560
          by_cases c57 : 0 < (t284.length : Int)
          · rw [if_pos c57] at H
            have c57b0 : decide (0 < (t284.length : Int)) = true := decide_eq_true c57
            have c57b1 : decide (0 < t284.length) = true := decide_eq_true (by omega)
            clear c57
            obtain ⟨y308, hy308⟩ : ∃ y_ : List ByteArray, y_ = (t284.set (0 : Int).toNat t307) := ⟨_, rfl⟩
            replace H : (some (y308, t287, t290, t291, t295)) = some (r1, r2, r3, r4, r5) := by first | (rw [hy308]; with_reducible exact H) | (have H2_ := (Option.bind_some _ _).symm.trans H; rw [hy308]; with_reducible exact H2_) | (have H2_ := (Option.bind_some _ _).symm.trans H; with_reducible exact H2_) | with_reducible exact H | (rw [hy308]; exact H) | exact H
            have Ny308 := Aside0.mk hy308
            clear hy308
            simp only [Option.some.injEq, Prod.mk.injEq] at H
            obtain ⟨rfl, rfl, rfl, rfl, rfl⟩ := H
            go_enter Try.func33, Try.ntmps33
            try go_wp2_with (first | ((with_reducible refine zB (N := 2) rfl ?_); refine qZ ?hg (N := 2) ?hd (cs := #[.slice none 0 0, .slice none 0 0, .int .i64 0, .int .i64 0]) (t := 26) ?hr ?_; (case hd => rfl); (case hg => rfl); (case hr => first | (go_simp; done) | (go_simp; rfl)); intro gb283 hg w59 hbox hb; have n0_ := Aside0.mk (IsS83.below (by repeat (first | (with_reducible first | exact HI0.out | apply IsS83.alloc | apply IsS83.drewN | apply IsS83.drew | apply IsS83.set_1) | exact HI0.out)) hb); have n1_ := Aside0.mk (KeepBut.trans (by repeat (first | (with_reducible first | exact HK.out | apply KeepBut.set_ | apply qK | apply qO | apply qL) | exact HK.out)) (KeepBut.of_below hb g none) (.inl rfl)); have n2_ := Aside0.mk (qN (by repeat (first | (with_reducible first | exact HB.out | apply qF | apply qC | apply qE | refine qB ?_ (IsS83.ge HI0.out)) | exact HB.out)) hb); have n3_ := Aside0.mk (hbox); have n4_ := Aside0.mk ((by rw [hg]; exact (zF (w := w) (g := g) (row := none) (by repeat (first | (with_reducible first | exact HK.out | apply KeepBut.set_ | apply qK | apply qO | apply qL) | exact HK.out))) : w.heap.size ≤ gb283)); have n5_ := Aside0.mk ((Nat.le_trans HW0.out (by rw [hg]; exact (zF (w := w) (g := g) (row := none) (by repeat (first | (with_reducible first | exact HK.out | apply KeepBut.set_ | apply qK | apply qO | apply qL) | exact HK.out))) : w.heap.size ≤ gb283) : w0.heap.size ≤ gb283)); have n6_ := Aside0.mk ((by rw [hg]; exact Nat.ne_of_lt (IsS83.lt (show IsS83 w0 _ g s0_0 s0_1 from by repeat (first | (with_reducible first | exact HI0.out | apply IsS83.alloc | apply IsS83.drewN | apply IsS83.drew | apply IsS83.set_1) | exact HI0.out))) : g ≠ gb283)); have n7_ := Aside0.mk ((by rw [hg]; exact Nat.ne_of_gt (IsS83.lt (show IsS83 w0 _ g s0_0 s0_1 from by repeat (first | (with_reducible first | exact HI0.out | apply IsS83.alloc | apply IsS83.drewN | apply IsS83.drew | apply IsS83.set_1) | exact HI0.out))) : gb283 ≠ g)); clear HI0; clear HK; clear HB; have HI0 := n0_; have HK := n1_; have HB := n2_; have BK283 := n3_; have GW283 := n4_; have GE283 := n5_; have NB0_283 := n6_; have NB283_0 := n7_; clear n0_ n1_ n2_ n3_ n4_ n5_ n6_ n7_; clear hb hbox hg) | ((with_reducible refine qT (f := 65) rfl ?_); refine zL (some 5) rfl rfl Try.func65 (by kernel_rfl) rfl #[.pointer (some ⟨g, 0, none⟩)] rfl (by (try simp only [List.map_toArray, List.map_cons, List.map_nil]); first | done | rfl | (simp only [List.length_drop, List.length_take]; rfl)) ?_; (with_reducible refine (spec_l15Disk.calls k g s0_0 s0_1 t284 t287 t290 t291 t292 w0 _ ?side1 ?side2 A2.out).mono ?_); (case side1 => repeat (first | (with_reducible first | exact HI0.out | apply IsS83.alloc | apply IsS83.drewN | apply IsS83.drew | apply IsS83.set_1 | refine IsS83.far ?_ NB0_283.out _) | exact HI0.out)); (case side2 => repeat (first | (with_reducible first | exact HB.out | apply qF | apply qC | apply qE | refine qB ?_ (IsS83.ge HI0.out) | refine qB ?_ GE283.out) | exact HB.out)); rintro e w60 ⟨v285, v288, rfl, ho0, ho1, hi, hb, hk⟩; refine ⟨_, rfl, ?_⟩; have n0_ := Aside0.mk (KeepBut.blk hk (g' := gb283) (o := .cells #[.slice none 0 0, .slice none 0 0, .int .i64 0, .int .i64 0] 26 (0, 0)) (bw_ BK283.out) NB283_0.out (by simp)); have n1_ := Aside0.mk (Kd.zJ ho0 (zF (w := w) (g := g) (row := none) (by repeat (first | (with_reducible first | exact HK.out | apply KeepBut.set_ | apply qK | apply qO | apply qL | refine qQ ?_ GW283.out _) | exact HK.out)))); have n2_ := Aside0.mk (Kd.zJ ho1 (zF (w := w) (g := g) (row := none) (by repeat (first | (with_reducible first | exact HK.out | apply KeepBut.set_ | apply qK | apply qO | apply qL | refine qQ ?_ GW283.out _) | exact HK.out)))); have n3_ := Aside0.mk (KeepBut.trans (by repeat (first | (with_reducible first | exact HK.out | apply KeepBut.set_ | apply qK | apply qO | apply qL | refine qQ ?_ GW283.out _) | exact HK.out)) hk (.inl rfl)); have n4_ := Aside0.mk (hb); have n5_ := Aside0.mk (hi); clear BK283; clear HK; clear HB; clear HI0; have BK283 := n0_; have HO286 := n1_; have HO289 := n2_; have HK := n3_; have HB := n4_; have HI0 := n5_; clear n0_ n1_ n2_ n3_ n4_ n5_; (try clear hb); (try clear hb2); (try clear hk); (try clear hi); (try clear ho0); (try clear ho1)) | ((with_reducible refine zB (N := 3) rfl ?_); refine qZ ?hg (N := 3) ?hd (cs := #[.slice none 0 0, .slice none 0 0, .int .i64 0, .int .i64 0]) (t := 26) ?hr ?_; (case hd => rfl); (case hg => rfl); (case hr => first | (go_simp; done) | (go_simp; rfl)); intro gb293 hg w61 hbox hb; have n0_ := Aside0.mk (Kd.qU (rw_ HO286.out) hb); have n1_ := Aside0.mk (Kd.qU (rw_ HO289.out) hb); have n2_ := Aside0.mk (IsS83.below (by repeat (first | (with_reducible first | exact HI0.out | apply IsS83.alloc | apply IsS83.drewN | apply IsS83.drew | apply IsS83.set_1 | refine IsS83.far ?_ NB0_283.out _) | exact HI0.out)) hb); have n3_ := Aside0.mk (qJ (g := gb283) (o := .cells #[.slice none 0 0, .slice none 0 0, .int .i64 0, .int .i64 0] 26 (0, 0)) (bw_ BK283.out) hb); have n4_ := Aside0.mk (KeepBut.trans (by repeat (first | (with_reducible first | exact HK.out | apply KeepBut.set_ | apply qK | apply qO | apply qL | refine qQ ?_ GW283.out _) | exact HK.out)) (KeepBut.of_below hb g none) (.inl rfl)); have n5_ := Aside0.mk (qN (by repeat (first | (with_reducible first | exact HB.out | apply qF | apply qC | apply qE | refine qB ?_ (IsS83.ge HI0.out) | refine qB ?_ GE283.out) | exact HB.out)) hb); have n6_ := Aside0.mk (hbox); have n7_ := Aside0.mk ((by rw [hg]; exact (zF (w := w) (g := g) (row := none) (by repeat (first | (with_reducible first | exact HK.out | apply KeepBut.set_ | apply qK | apply qO | apply qL | refine qQ ?_ GW283.out _) | exact HK.out))) : w.heap.size ≤ gb293)); have n8_ := Aside0.mk ((Nat.le_trans HW0.out (by rw [hg]; exact (zF (w := w) (g := g) (row := none) (by repeat (first | (with_reducible first | exact HK.out | apply KeepBut.set_ | apply qK | apply qO | apply qL | refine qQ ?_ GW283.out _) | exact HK.out))) : w.heap.size ≤ gb293) : w0.heap.size ≤ gb293)); have n9_ := Aside0.mk ((by rw [hg]; exact Nat.ne_of_lt (zE (g := gb283) (o := .cells #[.slice none 0 0, .slice none 0 0, .int .i64 0, .int .i64 0] 26 (0, 0)) (bw_ BK283.out)) : gb283 ≠ gb293)); have n10_ := Aside0.mk ((by rw [hg]; exact Nat.ne_of_gt (zE (g := gb283) (o := .cells #[.slice none 0 0, .slice none 0 0, .int .i64 0, .int .i64 0] 26 (0, 0)) (bw_ BK283.out)) : gb293 ≠ gb283)); have n11_ := Aside0.mk ((by rw [hg]; exact Nat.ne_of_lt (IsS83.lt (show IsS83 w0 _ g s0_0 t292 from by repeat (first | (with_reducible first | exact HI0.out | apply IsS83.alloc | apply IsS83.drewN | apply IsS83.drew | apply IsS83.set_1 | refine IsS83.far ?_ NB0_283.out _) | exact HI0.out))) : g ≠ gb293)); have n12_ := Aside0.mk ((by rw [hg]; exact Nat.ne_of_gt (IsS83.lt (show IsS83 w0 _ g s0_0 t292 from by repeat (first | (with_reducible first | exact HI0.out | apply IsS83.alloc | apply IsS83.drewN | apply IsS83.drew | apply IsS83.set_1 | refine IsS83.far ?_ NB0_283.out _) | exact HI0.out))) : gb293 ≠ g)); clear HO286; clear HO289; clear HI0; clear BK283; clear HK; clear HB; have HO286 := n0_; have HO289 := n1_; have HI0 := n2_; have BK283 := n3_; have HK := n4_; have HB := n5_; have BK293 := n6_; have GW293 := n7_; have GE293 := n8_; have NB283_293 := n9_; have NB293_283 := n10_; have NB0_293 := n11_; have NB293_0 := n12_; clear n0_ n1_ n2_ n3_ n4_ n5_ n6_ n7_ n8_ n9_ n10_ n11_ n12_; clear hb hbox hg; obtain ⟨Ao62, co62, eo62⟩ := Kd.zG HO286.out; subst eo62; have hnb63 := NB293_283.out; have hnc63 := NB283_293.out; have hnb64 := NB293_0.out; have hnc64 := NB0_293.out; have hcz65_0 : w61.cell? ⟨gb293, 0, none⟩ = some (.slice none 0 0) := (qA BK293.out 0).trans rfl; have hcz65_1 : w61.cell? ⟨gb293, 1, none⟩ = some (.slice none 0 0) := (qA BK293.out 1).trans rfl; have hcz65_2 : w61.cell? ⟨gb293, 2, none⟩ = some (.int .i64 0) := (qA BK293.out 2).trans rfl; have hcz65_3 : w61.cell? ⟨gb293, 3, none⟩ = some (.int .i64 0) := (qA BK293.out 3).trans rfl; have hfz65_0 := qD BK293.out 0; have hfz65_1 := qD BK293.out 1; have hfz65_2 := qD BK293.out 2; have hfz65_3 := qD BK293.out 3; obtain ⟨Ao66, co66, eo66⟩ := Kd.zG HO289.out; subst eo66) | ((with_reducible refine qT (f := 34) rfl ?_); refine zL (some 7) rfl rfl Try.func34 (by kernel_rfl) rfl #[.pointer (some ⟨g, 0, none⟩), .int .i64 24] rfl (by (try simp only [List.map_toArray, List.map_cons, List.map_nil]); first | done | rfl | (simp only [List.length_drop, List.length_take]; rfl)) ?_; (with_reducible refine (spec_l1Rd_pick.calls k g s0_0 t292 24 t294 t295 w0 _ ?side1 ?side2 A3.out).mono ?_); (case side1 => repeat (first | (with_reducible first | exact HI0.out | apply IsS83.alloc | apply IsS83.drewN | apply IsS83.drew | apply IsS83.set_1 | refine IsS83.far ?_ NB0_283.out _ | refine IsS83.far ?_ NB0_293.out _) | exact HI0.out)); (case side2 => repeat (first | (with_reducible first | exact HB.out | apply qF | apply qC | apply qE | refine qB ?_ (IsS83.ge HI0.out) | refine qB ?_ GE283.out | refine qB ?_ GE293.out) | exact HB.out)); rintro e w67 ⟨rfl, hi, hb, hk⟩; refine ⟨_, rfl, ?_⟩; have n0_ := Aside0.mk (KeepBut.blk hk (g' := gb283) (o := .cells #[.slice none 0 0, .slice none 0 0, .int .i64 0, .int .i64 0] 26 (0, 0)) (by (with_reducible repeat (first | refine qH ?_ _ | refine qI ?_ | refine qG ?_ _)); refine qR ?_ NB283_293.out _; (with_reducible repeat (first | refine qH ?_ _ | refine qI ?_ | refine qG ?_ _)); refine qR ?_ NB283_293.out _; (with_reducible repeat (first | refine qH ?_ _ | refine qI ?_ | refine qG ?_ _)); refine qR ?_ NB283_293.out _; (with_reducible repeat (first | refine qH ?_ _ | refine qI ?_ | refine qG ?_ _)); refine qR ?_ NB283_293.out _; (with_reducible repeat (first | refine qH ?_ _ | refine qI ?_ | refine qG ?_ _)); exact BK283.out) NB283_0.out (by simp)); have n1_ := Aside0.mk (Kd.qS (Kd.zM (IsS83.apart (show IsS83 w0 _ g s0_0 t292 from by repeat (first | (with_reducible first | exact HI0.out | apply IsS83.alloc | apply IsS83.drewN | apply IsS83.drew | apply IsS83.set_1 | refine IsS83.far ?_ NB0_283.out _ | refine IsS83.far ?_ NB0_293.out _) | exact HI0.out)) (by (with_reducible repeat (first | apply Kd.qX | apply Kd.qV | apply Kd.qW)); exact (Kd.qS (Kd.R_far (p := ⟨gb293, 3, none⟩) (Kd.R_far (p := ⟨gb293, 2, none⟩) (Kd.R_far (p := ⟨gb293, 1, none⟩) (Kd.R_far (p := ⟨gb293, 0, none⟩) (Kd.qY HO286.out BK293.out (by decide)) (fun _ hk => hk.2) (.slice Ao62 t284.length co62)) (fun _ hk => hk.2) (.slice Ao66 t287.length co66)) (fun _ hk => hk.2) (.int .i64 t290)) (fun _ hk => hk.2) (.int .i64 t291)) (fun _ h_ => h_.1))) (by decide)) hk (fun _ h => h.2)) (fun _ h => h.1)); have n2_ := Aside0.mk (Kd.qS (Kd.zM (IsS83.apart (show IsS83 w0 _ g s0_0 t292 from by repeat (first | (with_reducible first | exact HI0.out | apply IsS83.alloc | apply IsS83.drewN | apply IsS83.drew | apply IsS83.set_1 | refine IsS83.far ?_ NB0_283.out _ | refine IsS83.far ?_ NB0_293.out _) | exact HI0.out)) (by (with_reducible repeat (first | apply Kd.qX | apply Kd.qV | apply Kd.qW)); exact (Kd.qS (Kd.R_far (p := ⟨gb293, 3, none⟩) (Kd.R_far (p := ⟨gb293, 2, none⟩) (Kd.R_far (p := ⟨gb293, 1, none⟩) (Kd.R_far (p := ⟨gb293, 0, none⟩) (Kd.qY HO289.out BK293.out (by decide)) (fun _ hk => hk.2) (.slice Ao62 t284.length co62)) (fun _ hk => hk.2) (.slice Ao66 t287.length co66)) (fun _ hk => hk.2) (.int .i64 t290)) (fun _ hk => hk.2) (.int .i64 t291)) (fun _ h_ => h_.1))) (by decide)) hk (fun _ h => h.2)) (fun _ h => h.1)); have n3_ := Aside0.mk (KeepBut.blk hk (g' := gb293) (o := .cells #[.slice Ao62 t284.length co62, .slice Ao66 t287.length co66, .int .i64 t290, .int .i64 t291] 26 (0, 0)) (by (with_reducible repeat (first | refine qH ?_ _ | refine qI ?_ | refine qG ?_ _)); refine qP (cs := #[.slice Ao62 t284.length co62, .slice Ao66 t287.length co66, .int .i64 t290, .int .i64 0]) ?_ 3 _ rfl; (with_reducible repeat (first | refine qH ?_ _ | refine qI ?_ | refine qG ?_ _)); refine qP (cs := #[.slice Ao62 t284.length co62, .slice Ao66 t287.length co66, .int .i64 0, .int .i64 0]) ?_ 2 _ rfl; (with_reducible repeat (first | refine qH ?_ _ | refine qI ?_ | refine qG ?_ _)); refine qP (cs := #[.slice Ao62 t284.length co62, .slice none 0 0, .int .i64 0, .int .i64 0]) ?_ 1 _ rfl; (with_reducible repeat (first | refine qH ?_ _ | refine qI ?_ | refine qG ?_ _)); refine qP (cs := #[.slice none 0 0, .slice none 0 0, .int .i64 0, .int .i64 0]) ?_ 0 _ rfl; (with_reducible repeat (first | refine qH ?_ _ | refine qI ?_ | refine qG ?_ _)); exact BK293.out) NB293_0.out (by simp)); have n4_ := Aside0.mk (KeepBut.trans (by repeat (first | (with_reducible first | exact HK.out | apply KeepBut.set_ | apply qK | apply qO | apply qL | refine qQ ?_ GW283.out _ | refine qQ ?_ GW293.out _) | exact HK.out)) hk (.inl rfl)); have n5_ := Aside0.mk (hb); have n6_ := Aside0.mk (hi); clear BK283; clear HO286; clear HO289; clear BK293; clear HK; clear HB; clear HI0; have BK283 := n0_; have HO286 := n1_; have HO289 := n2_; have BK293 := n3_; have HK := n4_; have HB := n5_; have HI0 := n6_; clear n0_ n1_ n2_ n3_ n4_ n5_ n6_; (try clear hb); (try clear hb2); (try clear hk); (try clear hi)))
            have n0_ := Aside0.mk (Kd.qW HO286.out)
            have n1_ := Aside0.mk (Kd.qW HO289.out)
            have n2_ := Aside0.mk (qI BK283.out)
            have n3_ := Aside0.mk (qI BK293.out)
            have n4_ := Aside0.mk (IsS83.drew HI0.out)
            have n5_ := Aside0.mk (qO HK.out)
            have n6_ := Aside0.mk (qE HB.out)
            clear HO286
            clear HO289
            clear BK283
            clear BK293
            clear HI0
            clear HK
            clear HB
            have HO286 := n0_
            have HO289 := n1_
            have BK283 := n2_
            have BK293 := n3_
            have HI0 := n4_
            have HK := n5_
            have HB := n6_
            clear n0_ n1_ n2_ n3_ n4_ n5_ n6_
            refine start_ (n := 5) (S := fun w' => w'.cell? ⟨gb293, 0, none⟩ = some (.slice Ao62 t284.length co62) ∧ w'.cell? ⟨gb293, 1, none⟩ = some (.slice Ao66 t287.length co66) ∧ w'.cell? ⟨gb293, 2, none⟩ = some (.int .i64 t290) ∧ w'.cell? ⟨gb293, 3, none⟩ = some (.int .i64 t291)) (ds := [4]) #[false, false, false, false, false] (by kernel_rfl) rfl rfl ⟨(qA BK293.out 0).trans rfl, (qA BK293.out 1).trans rfl, (qA BK293.out 2).trans rfl, (qA BK293.out 3).trans rfl⟩ (fun hHeld => ?_)
            generalize w67.drew = w68 at HO286 HO289 BK283 BK293 HI0 HK HB hHeld ⊢
            refine pure_ (i := 0) (N := some 30) (v := ?_) (a' := ?_) #[true, false, false, false, false] rfl rfl (by kernel_rfl) (fun _ _ _ h => h) (Or.inl ⟨by rfl, ?_⟩) ?_ ?_
            rotate_left
            · intro w'
              go_simp
              with_reducible rfl
            rotate_left
            · simp only [Act.put, List.setIfInBounds_toArray, List.set_cons_zero, List.set_cons_succ, i64_w, i32_w]
              rfl
            refine take_ (i := 1) (N := some 31) (v := ?_) (a' := ?_) #[true, true, false, false, false] rfl rfl (by kernel_rfl) (fun _ _ _ h => h) (Or.inl ⟨by rfl, ?_⟩) hHeld ?_ ?_
            rotate_left
            · rintro w' ⟨s0, s1, s2, s3⟩
              go_simp
              with_reducible rfl
            rotate_left
            · simp only [Act.put, List.setIfInBounds_toArray, List.set_cons_zero, List.set_cons_succ, i64_w, i32_w]
              rfl
            refine one_ (i := 2) (N := some 32) #[true, true, true, false, false] rfl rfl (by kernel_rfl) (by decide) (fun K hK => ?_)
            refine goes_ Try.func41 (by kernel_rfl) rfl #[.string (⟨#[99]⟩ : ByteArray), .int .i64 1201] (by rfl) rfl rfl (by (try simp only [List.map_toArray, List.map_cons, List.map_nil]); first | done | rfl | (simp only [List.length_drop, List.length_take]; rfl)) ?_
            with_reducible refine (spec_l1Many.calls k (⟨#[99]⟩ : ByteArray) 1201 t307 _ A56.out).mono ?_
            rintro e w' ⟨rfl, ⟨nd, rfl⟩⟩
            refine ⟨_, rfl, ?_⟩
            (try (rw [drewN_self w68]; generalize hq_ : World.drewN w68 _ = w68; have n0_ : Aside0 (Kd.R Kd.string 9 w68 w.heap.size (fun _ => True) (.slice Ao62 t284.length co62) t284) := ⟨by rw [← hq_]; exact (rw_ HO286.out)⟩; have n1_ : Aside0 (Kd.R k70 70 w68 w.heap.size (fun _ => True) (.slice Ao66 t287.length co66) t287) := ⟨by rw [← hq_]; exact (rw_ HO289.out)⟩; have n2_ : Aside0 (w68.heap[gb283]? = some (.cells #[.slice none 0 0, .slice none 0 0, .int .i64 0, .int .i64 0] 26 (0, 0))) := ⟨by rw [← hq_]; exact (bw_ BK283.out)⟩; have n3_ : Aside0 (w68.heap[gb293]? = some (.cells #[.slice Ao62 t284.length co62, .slice Ao66 t287.length co66, .int .i64 t290, .int .i64 t291] 26 (0, 0))) := ⟨by rw [← hq_]; exact (bw_ BK293.out)⟩; have n4_ : Aside0 (IsS83 w0 w68 g s0_0 t295) := ⟨by rw [← hq_]; exact (by repeat (first | (with_reducible first | exact HI0.out | apply IsS83.alloc | apply IsS83.drewN | apply IsS83.drew | apply IsS83.set_1 | refine IsS83.far ?_ NB0_283.out _ | refine IsS83.far ?_ NB0_293.out _) | exact HI0.out))⟩; have n5_ : Aside0 (KeepBut w w68 g none) := ⟨by rw [← hq_]; exact (by repeat (first | (with_reducible first | exact HK.out | apply KeepBut.set_ | apply qK | apply qO | apply qL | refine qQ ?_ GW283.out _ | refine qQ ?_ GW293.out _) | exact HK.out))⟩; have n6_ : Aside0 (Below w0.heap.size w0 w68) := ⟨by rw [← hq_]; exact (by repeat (first | (with_reducible first | exact HB.out | apply qF | apply qC | apply qE | refine qB ?_ (IsS83.ge HI0.out) | refine qB ?_ GE283.out | refine qB ?_ GE293.out) | exact HB.out))⟩; clear HO286 HO289 BK283 BK293 HI0 HK HB hq_; have HO286 := n0_; have HO289 := n1_; have BK283 := n2_; have BK293 := n3_; have HI0 := n4_; have HK := n5_; have HB := n6_; clear n0_ n1_ n2_ n3_ n4_ n5_ n6_))
            have p58 : 0 ≤ (0 : Int) := (by omega)
            have q58 : (0 : Int) < ((t284.length : Int) : Int) := of_decide_eq_true (by first | (with_reducible assumption) | assumption)
            have qi58 : (0 < t284.length) = True := eq_true (by omega)
            obtain ⟨go58, co58, eo58, gb58, gl58, cl58, HG58⟩ := Kd.R_form HO286.out (by omega)
            (first | cases eo58 | (injection eo58 with ea_ en_ ec_; (first | subst ea_ | (injection ea_ with ea_; subst ea_)); subst ec_; clear en_))
            have GB58 := Aside0.mk gb58
            have GG58 := Aside0.mk HG58
            clear gb58 gl58 HG58
            obtain ⟨hx58_0, hf58_0⟩ := Kd.R_celln (⟨#[]⟩ : ByteArray) HO286.out (0 : Int) p58 q58
            (try rw [show ((0 : Int)).toNat = 0 from rfl] at hx58_0)
            (try simp only [Nat.reduceMul, Nat.zero_mul, Nat.zero_add, Nat.reduceAdd] at hx58_0)
            (try rw [show ((0 : Int)).toNat = 0 from rfl] at hf58_0)
            (try simp only [Nat.reduceMul, Nat.zero_mul, Nat.zero_add, Nat.reduceAdd] at hf58_0)
            replace p58 := eq_true p58
            replace q58 := eq_true q58
            have HN0_go58 := Aside0.mk (show g ≠ go58 from by have h_ := IsS83.own_ne HI0.out HO286.out (by decide); intro e_; exact h_ (by rw [e_]; rfl))
            have HP69 := Kd.R_putn HO286.out (0 : Int) t307
            rw [← Ny308.out] at HP69
            have HQ69 := Aside0.mk HP69
            clear HP69
            refine hK.out _ _ ⟨(qA BK293.out 0).trans rfl, (qA BK293.out 1).trans rfl, (qA BK293.out 2).trans rfl, (qA BK293.out 3).trans rfl⟩ (fun hHeld => ?_)
            clear hK K
            refine norm_ (a' := ?_) ?_ ?_
            rotate_left
            · show Act.put _ (some 32) _ = _
              simp only [Act.put, List.setIfInBounds_toArray, List.set_cons_zero, List.set_cons_succ, i64_w, i32_w]
              rfl
            refine pure_ (i := 3) (N := some 33) (v := ?_) (a' := ?_) #[true, true, true, true, false] rfl rfl (by kernel_rfl) (fun _ _ _ h => h) (Or.inl ⟨by rfl, ?_⟩) ?_ ?_
            rotate_left
            · intro w'
              go_simp
              with_reducible rfl
            rotate_left
            · simp only [Act.put, List.setIfInBounds_toArray, List.set_cons_zero, List.set_cons_succ, i64_w, i32_w]
              rfl
            refine last_ (i := 4) (N := none) #[true, true, true, true, true] rfl rfl (by kernel_rfl) (by decide) (fun K hK => ?_)
            refine skip_ (w1 := ?_) (by rfl) rfl ?_ ?_
            rotate_left
            · go_simp
              rfl
            refine hK.out _ _ ?_
            clear hK K
            refine done_ (by kernel_rfl) ?_
            have n0_ : Aside0 (Kd.R Kd.string 9 (w68.setCell ⟨go58, 0, none⟩ (.string t307)) w.heap.size (fun _ => True) (.slice (some ⟨go58, 0, none⟩) t284.length co62) y308) := ⟨by (with_reducible repeat (first | apply Kd.qX | apply Kd.qV | apply Kd.qW)); exact HQ69.out⟩
            have n1_ : Aside0 (Kd.R k70 70 (w68.setCell ⟨go58, 0, none⟩ (.string t307)) w.heap.size (fun _ => True) (.slice Ao66 t287.length co66) t287) := ⟨by (with_reducible repeat (first | apply Kd.qX | apply Kd.qV | apply Kd.qW)); exact Kd.qS (Kd.R_far (p := ⟨go58, 0, none⟩) (Kd.qY HO289.out GG58.out (by decide)) (fun _ hk => hk.2) (.string t307)) (fun _ hk => trivial)⟩
            have n2_ : Aside0 ((w68.setCell ⟨go58, 0, none⟩ (.string t307)).heap[gb283]? = some (.cells #[.slice none 0 0, .slice none 0 0, .int .i64 0, .int .i64 0] 26 (0, 0))) := ⟨by (with_reducible repeat (first | refine qH ?_ _ | refine qI ?_ | refine qG ?_ _)); refine qR ?_ (by have h_ := Kd.R_ne HO286.out BK283.out (by decide); intro e_; exact h_ (by rw [e_]; rfl)) _; (with_reducible repeat (first | refine qH ?_ _ | refine qI ?_ | refine qG ?_ _)); exact BK283.out⟩
            have n3_ : Aside0 ((w68.setCell ⟨go58, 0, none⟩ (.string t307)).heap[gb293]? = some (.cells #[.slice (some ⟨go58, 0, none⟩) t284.length co62, .slice Ao66 t287.length co66, .int .i64 t290, .int .i64 t291] 26 (0, 0))) := ⟨by (with_reducible repeat (first | refine qH ?_ _ | refine qI ?_ | refine qG ?_ _)); refine qR ?_ (by have h_ := Kd.R_ne HO286.out BK293.out (by decide); intro e_; exact h_ (by rw [e_]; rfl)) _; (with_reducible repeat (first | refine qH ?_ _ | refine qI ?_ | refine qG ?_ _)); exact BK293.out⟩
            have n4_ : Aside0 (IsS83 w0 (w68.setCell ⟨go58, 0, none⟩ (.string t307)) g s0_0 t295) := ⟨by repeat (first | (with_reducible first | exact HI0.out | apply IsS83.alloc | apply IsS83.drewN | apply IsS83.drew | apply IsS83.set_1 | refine IsS83.far ?_ HN0_go58.out _ | refine IsS83.far ?_ NB0_283.out _ | refine IsS83.far ?_ NB0_293.out _) | exact HI0.out)⟩
            have n5_ : Aside0 (KeepBut w (w68.setCell ⟨go58, 0, none⟩ (.string t307)) g none) := ⟨by repeat (first | (with_reducible first | exact HK.out | apply KeepBut.set_ | apply qK | apply qO | apply qL | refine qQ ?_ GB58.out _ | refine qQ ?_ GW283.out _ | refine qQ ?_ GW293.out _) | exact HK.out)⟩
            have n6_ : Aside0 (Below w0.heap.size w0 (w68.setCell ⟨go58, 0, none⟩ (.string t307))) := ⟨by repeat (first | (with_reducible first | exact HB.out | apply qF | apply qC | apply qE | refine qB ?_ (Nat.le_trans HL.out GB58.out) | refine qB ?_ (IsS83.ge HI0.out) | refine qB ?_ GE283.out | refine qB ?_ GE293.out) | exact HB.out)⟩
            (try clear HO286)
            (try clear HO289)
            (try clear BK283)
            (try clear BK293)
            (try clear HI0)
            (try clear HK)
            (try clear HB)
            generalize (w68.setCell ⟨go58, 0, none⟩ (.string t307)) = w70 at n0_ n1_ n2_ n3_ n4_ n5_ n6_ ⊢
            have HO286 := n0_
            have HO289 := n1_
            have BK283 := n2_
            have BK293 := n3_
            have HI0 := n4_
            have HK := n5_
            have HB := n6_
            clear n0_ n1_ n2_ n3_ n4_ n5_ n6_
            have hcz71_0 : w70.cell? ⟨gb293, 0, none⟩ = some (.slice (some ⟨go58, 0, none⟩) t284.length co62) := (qA BK293.out 0).trans rfl
            have hcz71_1 : w70.cell? ⟨gb293, 1, none⟩ = some (.slice Ao66 t287.length co66) := (qA BK293.out 1).trans rfl
            have hcz71_2 : w70.cell? ⟨gb293, 2, none⟩ = some (.int .i64 t290) := (qA BK293.out 2).trans rfl
            have hcz71_3 : w70.cell? ⟨gb293, 3, none⟩ = some (.int .i64 t291) := (qA BK293.out 3).trans rfl
            have hfz71_0 := qD BK293.out 0
            have hfz71_1 := qD BK293.out 1
            have hfz71_2 := qD BK293.out 2
            have hfz71_3 := qD BK293.out 3
            have hnb72 := NB283_0.out
            have hnc72 := NB0_283.out
            have hcz73_0 : w70.cell? ⟨gb283, 0, none⟩ = some (.slice none 0 0) := (qA BK283.out 0).trans rfl
            have hcz73_1 : w70.cell? ⟨gb283, 1, none⟩ = some (.slice none 0 0) := (qA BK283.out 1).trans rfl
            have hcz73_2 : w70.cell? ⟨gb283, 2, none⟩ = some (.int .i64 0) := (qA BK283.out 2).trans rfl
            have hcz73_3 : w70.cell? ⟨gb283, 3, none⟩ = some (.int .i64 0) := (qA BK283.out 3).trans rfl
            have hfz73_0 := qD BK283.out 0
            have hfz73_1 := qD BK283.out 1
            have hfz73_2 := qD BK283.out 2
            have hfz73_3 := qD BK283.out 3
            try go_wp2
            refine bodyPost_ret (results_cell_row rfl _ _ gb283 26 #[.slice (some ⟨go58, 0, none⟩) t284.length co62, .slice Ao66 t287.length co66, .int .i64 t290, .int .i64 t291] (0, 0) _ rfl (by (with_reducible repeat (first | refine qH ?_ _ | refine qI ?_ | refine qG ?_ _)); refine qP (cs := #[.slice (some ⟨go58, 0, none⟩) t284.length co62, .slice Ao66 t287.length co66, .int .i64 t290, .int .i64 0]) ?_ 3 _ rfl; (with_reducible repeat (first | refine qH ?_ _ | refine qI ?_ | refine qG ?_ _)); refine qP (cs := #[.slice (some ⟨go58, 0, none⟩) t284.length co62, .slice Ao66 t287.length co66, .int .i64 0, .int .i64 0]) ?_ 2 _ rfl; (with_reducible repeat (first | refine qH ?_ _ | refine qI ?_ | refine qG ?_ _)); refine qP (cs := #[.slice (some ⟨go58, 0, none⟩) t284.length co62, .slice none 0 0, .int .i64 0, .int .i64 0]) ?_ 1 _ rfl; (with_reducible repeat (first | refine qH ?_ _ | refine qI ?_ | refine qG ?_ _)); refine qP (cs := #[.slice none 0 0, .slice none 0 0, .int .i64 0, .int .i64 0]) ?_ 0 _ rfl; (with_reducible repeat (first | refine qH ?_ _ | refine qI ?_ | refine qG ?_ _)); exact BK283.out) Try.underlying26 rfl (by kernel_rfl)) rfl ?_
            exact ⟨_, _, by first | rfl | (simp [errW_none, errW_some] <;> rfl) | (simp [*, errW_none, errW_some] <;> rfl), Kd.Q_of_R (by (with_reducible repeat (first | apply Kd.qX | apply Kd.qV | apply Kd.qW)); exact Kd.qS (Kd.R_far (p := ⟨gb283, 3, none⟩) (Kd.R_far (p := ⟨gb283, 2, none⟩) (Kd.R_far (p := ⟨gb283, 1, none⟩) (Kd.R_far (p := ⟨gb283, 0, none⟩) (Kd.qY HO286.out BK283.out (by decide)) (fun _ hk => hk.2) (.slice (some ⟨go58, 0, none⟩) t284.length co62)) (fun _ hk => hk.2) (.slice Ao66 t287.length co66)) (fun _ hk => hk.2) (.int .i64 t290)) (fun _ hk => hk.2) (.int .i64 t291)) (fun _ hk => trivial)), by (with_reducible repeat (first | apply Kd.qX | apply Kd.qV | apply Kd.qW)); exact Kd.qS (Kd.R_far (p := ⟨gb283, 3, none⟩) (Kd.R_far (p := ⟨gb283, 2, none⟩) (Kd.R_far (p := ⟨gb283, 1, none⟩) (Kd.R_far (p := ⟨gb283, 0, none⟩) (Kd.qY HO289.out BK283.out (by decide)) (fun _ hk => hk.2) (.slice (some ⟨go58, 0, none⟩) t284.length co62)) (fun _ hk => hk.2) (.slice Ao66 t287.length co66)) (fun _ hk => hk.2) (.int .i64 t290)) (fun _ hk => hk.2) (.int .i64 t291)) (fun _ hk => trivial), by repeat (first | (with_reducible first | exact HI0.out | apply IsS83.alloc | apply IsS83.drewN | apply IsS83.drew | apply IsS83.set_1 | refine IsS83.far ?_ NB0_283.out _ | refine IsS83.far ?_ NB0_293.out _) | exact HI0.out), by repeat (first | (with_reducible first | exact HB.out | apply qF | apply qC | apply qE | refine qB ?_ (IsS83.ge HI0.out) | refine qB ?_ GE283.out | refine qB ?_ GE293.out) | exact HB.out), by repeat (first | (with_reducible first | exact HK.out | apply KeepBut.set_ | apply qK | apply qO | apply qL | refine qQ ?_ GW283.out _ | refine qQ ?_ GW293.out _) | exact HK.out)⟩
          · rw [if_neg c57] at H
            exact absurd H (by simp)
        · rw [if_neg c55] at H
          have c55b0 : (t294 == 3) = false := beq_eq_false_iff_ne.mpr c55
          have c55b1 : (t294 != 3) = true := bne_iff_ne.mpr c55
          by_cases c74 : t294 = 4
          · rw [if_pos c74] at H
            have c74b0 : (t294 == 4) = true := beq_iff_eq.mpr c74
            have c74b1 : (t294 != 4) = false := bne_eq_false_iff_eq.mpr c74
            clear c74
            simp only [Option.some.injEq, Prod.mk.injEq] at H
            obtain ⟨rfl, rfl, rfl, rfl, rfl⟩ := H
            go_enter Try.func33, Try.ntmps33
            go_wp2_with (first | ((with_reducible refine zB (N := 2) rfl ?_); refine qZ ?hg (N := 2) ?hd (cs := #[.slice none 0 0, .slice none 0 0, .int .i64 0, .int .i64 0]) (t := 26) ?hr ?_; (case hd => rfl); (case hg => rfl); (case hr => first | (go_simp; done) | (go_simp; rfl)); intro gb283 hg w75 hbox hb; have n0_ := Aside0.mk (IsS83.below (by repeat (first | (with_reducible first | exact HI0.out | apply IsS83.alloc | apply IsS83.drewN | apply IsS83.drew | apply IsS83.set_1) | exact HI0.out)) hb); have n1_ := Aside0.mk (KeepBut.trans (by repeat (first | (with_reducible first | exact HK.out | apply KeepBut.set_ | apply qK | apply qO | apply qL) | exact HK.out)) (KeepBut.of_below hb g none) (.inl rfl)); have n2_ := Aside0.mk (qN (by repeat (first | (with_reducible first | exact HB.out | apply qF | apply qC | apply qE | refine qB ?_ (IsS83.ge HI0.out)) | exact HB.out)) hb); have n3_ := Aside0.mk (hbox); have n4_ := Aside0.mk ((by rw [hg]; exact (zF (w := w) (g := g) (row := none) (by repeat (first | (with_reducible first | exact HK.out | apply KeepBut.set_ | apply qK | apply qO | apply qL) | exact HK.out))) : w.heap.size ≤ gb283)); have n5_ := Aside0.mk ((Nat.le_trans HW0.out (by rw [hg]; exact (zF (w := w) (g := g) (row := none) (by repeat (first | (with_reducible first | exact HK.out | apply KeepBut.set_ | apply qK | apply qO | apply qL) | exact HK.out))) : w.heap.size ≤ gb283) : w0.heap.size ≤ gb283)); have n6_ := Aside0.mk ((by rw [hg]; exact Nat.ne_of_lt (IsS83.lt (show IsS83 w0 _ g s0_0 s0_1 from by repeat (first | (with_reducible first | exact HI0.out | apply IsS83.alloc | apply IsS83.drewN | apply IsS83.drew | apply IsS83.set_1) | exact HI0.out))) : g ≠ gb283)); have n7_ := Aside0.mk ((by rw [hg]; exact Nat.ne_of_gt (IsS83.lt (show IsS83 w0 _ g s0_0 s0_1 from by repeat (first | (with_reducible first | exact HI0.out | apply IsS83.alloc | apply IsS83.drewN | apply IsS83.drew | apply IsS83.set_1) | exact HI0.out))) : gb283 ≠ g)); clear HI0; clear HK; clear HB; have HI0 := n0_; have HK := n1_; have HB := n2_; have BK283 := n3_; have GW283 := n4_; have GE283 := n5_; have NB0_283 := n6_; have NB283_0 := n7_; clear n0_ n1_ n2_ n3_ n4_ n5_ n6_ n7_; clear hb hbox hg) | ((with_reducible refine qT (f := 65) rfl ?_); refine zL (some 5) rfl rfl Try.func65 (by kernel_rfl) rfl #[.pointer (some ⟨g, 0, none⟩)] rfl (by (try simp only [List.map_toArray, List.map_cons, List.map_nil]); first | done | rfl | (simp only [List.length_drop, List.length_take]; rfl)) ?_; (with_reducible refine (spec_l15Disk.calls k g s0_0 s0_1 t284 t287 t290 t291 t292 w0 _ ?side1 ?side2 A2.out).mono ?_); (case side1 => repeat (first | (with_reducible first | exact HI0.out | apply IsS83.alloc | apply IsS83.drewN | apply IsS83.drew | apply IsS83.set_1 | refine IsS83.far ?_ NB0_283.out _) | exact HI0.out)); (case side2 => repeat (first | (with_reducible first | exact HB.out | apply qF | apply qC | apply qE | refine qB ?_ (IsS83.ge HI0.out) | refine qB ?_ GE283.out) | exact HB.out)); rintro e w76 ⟨v285, v288, rfl, ho0, ho1, hi, hb, hk⟩; refine ⟨_, rfl, ?_⟩; have n0_ := Aside0.mk (KeepBut.blk hk (g' := gb283) (o := .cells #[.slice none 0 0, .slice none 0 0, .int .i64 0, .int .i64 0] 26 (0, 0)) (bw_ BK283.out) NB283_0.out (by simp)); have n1_ := Aside0.mk (Kd.zJ ho0 (zF (w := w) (g := g) (row := none) (by repeat (first | (with_reducible first | exact HK.out | apply KeepBut.set_ | apply qK | apply qO | apply qL | refine qQ ?_ GW283.out _) | exact HK.out)))); have n2_ := Aside0.mk (Kd.zJ ho1 (zF (w := w) (g := g) (row := none) (by repeat (first | (with_reducible first | exact HK.out | apply KeepBut.set_ | apply qK | apply qO | apply qL | refine qQ ?_ GW283.out _) | exact HK.out)))); have n3_ := Aside0.mk (KeepBut.trans (by repeat (first | (with_reducible first | exact HK.out | apply KeepBut.set_ | apply qK | apply qO | apply qL | refine qQ ?_ GW283.out _) | exact HK.out)) hk (.inl rfl)); have n4_ := Aside0.mk (hb); have n5_ := Aside0.mk (hi); clear BK283; clear HK; clear HB; clear HI0; have BK283 := n0_; have HO286 := n1_; have HO289 := n2_; have HK := n3_; have HB := n4_; have HI0 := n5_; clear n0_ n1_ n2_ n3_ n4_ n5_; (try clear hb); (try clear hb2); (try clear hk); (try clear hi); (try clear ho0); (try clear ho1)) | ((with_reducible refine zB (N := 3) rfl ?_); refine qZ ?hg (N := 3) ?hd (cs := #[.slice none 0 0, .slice none 0 0, .int .i64 0, .int .i64 0]) (t := 26) ?hr ?_; (case hd => rfl); (case hg => rfl); (case hr => first | (go_simp; done) | (go_simp; rfl)); intro gb293 hg w77 hbox hb; have n0_ := Aside0.mk (Kd.qU (rw_ HO286.out) hb); have n1_ := Aside0.mk (Kd.qU (rw_ HO289.out) hb); have n2_ := Aside0.mk (IsS83.below (by repeat (first | (with_reducible first | exact HI0.out | apply IsS83.alloc | apply IsS83.drewN | apply IsS83.drew | apply IsS83.set_1 | refine IsS83.far ?_ NB0_283.out _) | exact HI0.out)) hb); have n3_ := Aside0.mk (qJ (g := gb283) (o := .cells #[.slice none 0 0, .slice none 0 0, .int .i64 0, .int .i64 0] 26 (0, 0)) (bw_ BK283.out) hb); have n4_ := Aside0.mk (KeepBut.trans (by repeat (first | (with_reducible first | exact HK.out | apply KeepBut.set_ | apply qK | apply qO | apply qL | refine qQ ?_ GW283.out _) | exact HK.out)) (KeepBut.of_below hb g none) (.inl rfl)); have n5_ := Aside0.mk (qN (by repeat (first | (with_reducible first | exact HB.out | apply qF | apply qC | apply qE | refine qB ?_ (IsS83.ge HI0.out) | refine qB ?_ GE283.out) | exact HB.out)) hb); have n6_ := Aside0.mk (hbox); have n7_ := Aside0.mk ((by rw [hg]; exact (zF (w := w) (g := g) (row := none) (by repeat (first | (with_reducible first | exact HK.out | apply KeepBut.set_ | apply qK | apply qO | apply qL | refine qQ ?_ GW283.out _) | exact HK.out))) : w.heap.size ≤ gb293)); have n8_ := Aside0.mk ((Nat.le_trans HW0.out (by rw [hg]; exact (zF (w := w) (g := g) (row := none) (by repeat (first | (with_reducible first | exact HK.out | apply KeepBut.set_ | apply qK | apply qO | apply qL | refine qQ ?_ GW283.out _) | exact HK.out))) : w.heap.size ≤ gb293) : w0.heap.size ≤ gb293)); have n9_ := Aside0.mk ((by rw [hg]; exact Nat.ne_of_lt (zE (g := gb283) (o := .cells #[.slice none 0 0, .slice none 0 0, .int .i64 0, .int .i64 0] 26 (0, 0)) (bw_ BK283.out)) : gb283 ≠ gb293)); have n10_ := Aside0.mk ((by rw [hg]; exact Nat.ne_of_gt (zE (g := gb283) (o := .cells #[.slice none 0 0, .slice none 0 0, .int .i64 0, .int .i64 0] 26 (0, 0)) (bw_ BK283.out)) : gb293 ≠ gb283)); have n11_ := Aside0.mk ((by rw [hg]; exact Nat.ne_of_lt (IsS83.lt (show IsS83 w0 _ g s0_0 t292 from by repeat (first | (with_reducible first | exact HI0.out | apply IsS83.alloc | apply IsS83.drewN | apply IsS83.drew | apply IsS83.set_1 | refine IsS83.far ?_ NB0_283.out _) | exact HI0.out))) : g ≠ gb293)); have n12_ := Aside0.mk ((by rw [hg]; exact Nat.ne_of_gt (IsS83.lt (show IsS83 w0 _ g s0_0 t292 from by repeat (first | (with_reducible first | exact HI0.out | apply IsS83.alloc | apply IsS83.drewN | apply IsS83.drew | apply IsS83.set_1 | refine IsS83.far ?_ NB0_283.out _) | exact HI0.out))) : gb293 ≠ g)); clear HO286; clear HO289; clear HI0; clear BK283; clear HK; clear HB; have HO286 := n0_; have HO289 := n1_; have HI0 := n2_; have BK283 := n3_; have HK := n4_; have HB := n5_; have BK293 := n6_; have GW293 := n7_; have GE293 := n8_; have NB283_293 := n9_; have NB293_283 := n10_; have NB0_293 := n11_; have NB293_0 := n12_; clear n0_ n1_ n2_ n3_ n4_ n5_ n6_ n7_ n8_ n9_ n10_ n11_ n12_; clear hb hbox hg; obtain ⟨Ao78, co78, eo78⟩ := Kd.zG HO286.out; subst eo78; have hnb79 := NB293_283.out; have hnc79 := NB283_293.out; have hnb80 := NB293_0.out; have hnc80 := NB0_293.out; have hcz81_0 : w77.cell? ⟨gb293, 0, none⟩ = some (.slice none 0 0) := (qA BK293.out 0).trans rfl; have hcz81_1 : w77.cell? ⟨gb293, 1, none⟩ = some (.slice none 0 0) := (qA BK293.out 1).trans rfl; have hcz81_2 : w77.cell? ⟨gb293, 2, none⟩ = some (.int .i64 0) := (qA BK293.out 2).trans rfl; have hcz81_3 : w77.cell? ⟨gb293, 3, none⟩ = some (.int .i64 0) := (qA BK293.out 3).trans rfl; have hfz81_0 := qD BK293.out 0; have hfz81_1 := qD BK293.out 1; have hfz81_2 := qD BK293.out 2; have hfz81_3 := qD BK293.out 3; obtain ⟨Ao82, co82, eo82⟩ := Kd.zG HO289.out; subst eo82) | ((with_reducible refine qT (f := 34) rfl ?_); refine zL (some 7) rfl rfl Try.func34 (by kernel_rfl) rfl #[.pointer (some ⟨g, 0, none⟩), .int .i64 24] rfl (by (try simp only [List.map_toArray, List.map_cons, List.map_nil]); first | done | rfl | (simp only [List.length_drop, List.length_take]; rfl)) ?_; (with_reducible refine (spec_l1Rd_pick.calls k g s0_0 t292 24 t294 t295 w0 _ ?side1 ?side2 A3.out).mono ?_); (case side1 => repeat (first | (with_reducible first | exact HI0.out | apply IsS83.alloc | apply IsS83.drewN | apply IsS83.drew | apply IsS83.set_1 | refine IsS83.far ?_ NB0_283.out _ | refine IsS83.far ?_ NB0_293.out _) | exact HI0.out)); (case side2 => repeat (first | (with_reducible first | exact HB.out | apply qF | apply qC | apply qE | refine qB ?_ (IsS83.ge HI0.out) | refine qB ?_ GE283.out | refine qB ?_ GE293.out) | exact HB.out)); rintro e w83 ⟨rfl, hi, hb, hk⟩; refine ⟨_, rfl, ?_⟩; have n0_ := Aside0.mk (KeepBut.blk hk (g' := gb283) (o := .cells #[.slice none 0 0, .slice none 0 0, .int .i64 0, .int .i64 0] 26 (0, 0)) (by (with_reducible repeat (first | refine qH ?_ _ | refine qI ?_ | refine qG ?_ _)); refine qR ?_ NB283_293.out _; (with_reducible repeat (first | refine qH ?_ _ | refine qI ?_ | refine qG ?_ _)); refine qR ?_ NB283_293.out _; (with_reducible repeat (first | refine qH ?_ _ | refine qI ?_ | refine qG ?_ _)); refine qR ?_ NB283_293.out _; (with_reducible repeat (first | refine qH ?_ _ | refine qI ?_ | refine qG ?_ _)); refine qR ?_ NB283_293.out _; (with_reducible repeat (first | refine qH ?_ _ | refine qI ?_ | refine qG ?_ _)); exact BK283.out) NB283_0.out (by simp)); have n1_ := Aside0.mk (Kd.qS (Kd.zM (IsS83.apart (show IsS83 w0 _ g s0_0 t292 from by repeat (first | (with_reducible first | exact HI0.out | apply IsS83.alloc | apply IsS83.drewN | apply IsS83.drew | apply IsS83.set_1 | refine IsS83.far ?_ NB0_283.out _ | refine IsS83.far ?_ NB0_293.out _) | exact HI0.out)) (by (with_reducible repeat (first | apply Kd.qX | apply Kd.qV | apply Kd.qW)); exact (Kd.qS (Kd.R_far (p := ⟨gb293, 3, none⟩) (Kd.R_far (p := ⟨gb293, 2, none⟩) (Kd.R_far (p := ⟨gb293, 1, none⟩) (Kd.R_far (p := ⟨gb293, 0, none⟩) (Kd.qY HO286.out BK293.out (by decide)) (fun _ hk => hk.2) (.slice Ao78 t284.length co78)) (fun _ hk => hk.2) (.slice Ao82 t287.length co82)) (fun _ hk => hk.2) (.int .i64 t290)) (fun _ hk => hk.2) (.int .i64 t291)) (fun _ h_ => h_.1))) (by decide)) hk (fun _ h => h.2)) (fun _ h => h.1)); have n2_ := Aside0.mk (Kd.qS (Kd.zM (IsS83.apart (show IsS83 w0 _ g s0_0 t292 from by repeat (first | (with_reducible first | exact HI0.out | apply IsS83.alloc | apply IsS83.drewN | apply IsS83.drew | apply IsS83.set_1 | refine IsS83.far ?_ NB0_283.out _ | refine IsS83.far ?_ NB0_293.out _) | exact HI0.out)) (by (with_reducible repeat (first | apply Kd.qX | apply Kd.qV | apply Kd.qW)); exact (Kd.qS (Kd.R_far (p := ⟨gb293, 3, none⟩) (Kd.R_far (p := ⟨gb293, 2, none⟩) (Kd.R_far (p := ⟨gb293, 1, none⟩) (Kd.R_far (p := ⟨gb293, 0, none⟩) (Kd.qY HO289.out BK293.out (by decide)) (fun _ hk => hk.2) (.slice Ao78 t284.length co78)) (fun _ hk => hk.2) (.slice Ao82 t287.length co82)) (fun _ hk => hk.2) (.int .i64 t290)) (fun _ hk => hk.2) (.int .i64 t291)) (fun _ h_ => h_.1))) (by decide)) hk (fun _ h => h.2)) (fun _ h => h.1)); have n3_ := Aside0.mk (KeepBut.blk hk (g' := gb293) (o := .cells #[.slice Ao78 t284.length co78, .slice Ao82 t287.length co82, .int .i64 t290, .int .i64 t291] 26 (0, 0)) (by (with_reducible repeat (first | refine qH ?_ _ | refine qI ?_ | refine qG ?_ _)); refine qP (cs := #[.slice Ao78 t284.length co78, .slice Ao82 t287.length co82, .int .i64 t290, .int .i64 0]) ?_ 3 _ rfl; (with_reducible repeat (first | refine qH ?_ _ | refine qI ?_ | refine qG ?_ _)); refine qP (cs := #[.slice Ao78 t284.length co78, .slice Ao82 t287.length co82, .int .i64 0, .int .i64 0]) ?_ 2 _ rfl; (with_reducible repeat (first | refine qH ?_ _ | refine qI ?_ | refine qG ?_ _)); refine qP (cs := #[.slice Ao78 t284.length co78, .slice none 0 0, .int .i64 0, .int .i64 0]) ?_ 1 _ rfl; (with_reducible repeat (first | refine qH ?_ _ | refine qI ?_ | refine qG ?_ _)); refine qP (cs := #[.slice none 0 0, .slice none 0 0, .int .i64 0, .int .i64 0]) ?_ 0 _ rfl; (with_reducible repeat (first | refine qH ?_ _ | refine qI ?_ | refine qG ?_ _)); exact BK293.out) NB293_0.out (by simp)); have n4_ := Aside0.mk (KeepBut.trans (by repeat (first | (with_reducible first | exact HK.out | apply KeepBut.set_ | apply qK | apply qO | apply qL | refine qQ ?_ GW283.out _ | refine qQ ?_ GW293.out _) | exact HK.out)) hk (.inl rfl)); have n5_ := Aside0.mk (hb); have n6_ := Aside0.mk (hi); clear BK283; clear HO286; clear HO289; clear BK293; clear HK; clear HB; clear HI0; have BK283 := n0_; have HO286 := n1_; have HO289 := n2_; have BK293 := n3_; have HK := n4_; have HB := n5_; have HI0 := n6_; clear n0_ n1_ n2_ n3_ n4_ n5_ n6_; (try clear hb); (try clear hb2); (try clear hk); (try clear hi); have hcz84_0 : w83.cell? ⟨gb293, 0, none⟩ = some (.slice Ao78 t284.length co78) := (qA BK293.out 0).trans rfl; have hcz84_1 : w83.cell? ⟨gb293, 1, none⟩ = some (.slice Ao82 t287.length co82) := (qA BK293.out 1).trans rfl; have hcz84_2 : w83.cell? ⟨gb293, 2, none⟩ = some (.int .i64 t290) := (qA BK293.out 2).trans rfl; have hcz84_3 : w83.cell? ⟨gb293, 3, none⟩ = some (.int .i64 t291) := (qA BK293.out 3).trans rfl; have hfz84_0 := qD BK293.out 0; have hfz84_1 := qD BK293.out 1; have hfz84_2 := qD BK293.out 2; have hfz84_3 := qD BK293.out 3; have hnb85 := NB283_0.out; have hnc85 := NB0_283.out; have hcz86_0 : w83.cell? ⟨gb283, 0, none⟩ = some (.slice none 0 0) := (qA BK283.out 0).trans rfl; have hcz86_1 : w83.cell? ⟨gb283, 1, none⟩ = some (.slice none 0 0) := (qA BK283.out 1).trans rfl; have hcz86_2 : w83.cell? ⟨gb283, 2, none⟩ = some (.int .i64 0) := (qA BK283.out 2).trans rfl; have hcz86_3 : w83.cell? ⟨gb283, 3, none⟩ = some (.int .i64 0) := (qA BK283.out 3).trans rfl; have hfz86_0 := qD BK283.out 0; have hfz86_1 := qD BK283.out 1; have hfz86_2 := qD BK283.out 2; have hfz86_3 := qD BK283.out 3))
            refine bodyPost_ret (results_cell_row rfl _ _ gb283 26 #[.slice Ao78 t284.length co78, .slice Ao82 t287.length co82, .int .i64 t290, .int .i64 (-2)] (0, 0) _ rfl (by (with_reducible repeat (first | refine qH ?_ _ | refine qI ?_ | refine qG ?_ _)); refine qP (cs := #[.slice Ao78 t284.length co78, .slice Ao82 t287.length co82, .int .i64 t290, .int .i64 0]) ?_ 3 _ rfl; (with_reducible repeat (first | refine qH ?_ _ | refine qI ?_ | refine qG ?_ _)); refine qP (cs := #[.slice Ao78 t284.length co78, .slice Ao82 t287.length co82, .int .i64 0, .int .i64 0]) ?_ 2 _ rfl; (with_reducible repeat (first | refine qH ?_ _ | refine qI ?_ | refine qG ?_ _)); refine qP (cs := #[.slice Ao78 t284.length co78, .slice none 0 0, .int .i64 0, .int .i64 0]) ?_ 1 _ rfl; (with_reducible repeat (first | refine qH ?_ _ | refine qI ?_ | refine qG ?_ _)); refine qP (cs := #[.slice none 0 0, .slice none 0 0, .int .i64 0, .int .i64 0]) ?_ 0 _ rfl; (with_reducible repeat (first | refine qH ?_ _ | refine qI ?_ | refine qG ?_ _)); refine qR ?_ NB283_293.out _; (with_reducible repeat (first | refine qH ?_ _ | refine qI ?_ | refine qG ?_ _)); exact BK283.out) Try.underlying26 rfl (by kernel_rfl)) rfl ?_
            exact ⟨_, _, by first | rfl | (simp [errW_none, errW_some] <;> rfl) | (simp [*, errW_none, errW_some] <;> rfl), Kd.Q_of_R (by (with_reducible repeat (first | apply Kd.qX | apply Kd.qV | apply Kd.qW)); exact Kd.qS (Kd.R_far (p := ⟨gb283, 3, none⟩) (Kd.R_far (p := ⟨gb283, 2, none⟩) (Kd.R_far (p := ⟨gb283, 1, none⟩) (Kd.R_far (p := ⟨gb283, 0, none⟩) (Kd.R_far (p := ⟨gb293, 3, none⟩) (Kd.qY (Kd.qY HO286.out BK293.out (by decide)) BK283.out (by decide)) (fun _ hk => hk.1.2) (.int .i64 (-2))) (fun _ hk => hk.2) (.slice Ao78 t284.length co78)) (fun _ hk => hk.2) (.slice Ao82 t287.length co82)) (fun _ hk => hk.2) (.int .i64 t290)) (fun _ hk => hk.2) (.int .i64 (-2))) (fun _ hk => trivial)), by (with_reducible repeat (first | apply Kd.qX | apply Kd.qV | apply Kd.qW)); exact Kd.qS (Kd.R_far (p := ⟨gb283, 3, none⟩) (Kd.R_far (p := ⟨gb283, 2, none⟩) (Kd.R_far (p := ⟨gb283, 1, none⟩) (Kd.R_far (p := ⟨gb283, 0, none⟩) (Kd.R_far (p := ⟨gb293, 3, none⟩) (Kd.qY (Kd.qY HO289.out BK293.out (by decide)) BK283.out (by decide)) (fun _ hk => hk.1.2) (.int .i64 (-2))) (fun _ hk => hk.2) (.slice Ao78 t284.length co78)) (fun _ hk => hk.2) (.slice Ao82 t287.length co82)) (fun _ hk => hk.2) (.int .i64 t290)) (fun _ hk => hk.2) (.int .i64 (-2))) (fun _ hk => trivial), by repeat (first | (with_reducible first | exact HI0.out | apply IsS83.alloc | apply IsS83.drewN | apply IsS83.drew | apply IsS83.set_1 | refine IsS83.far ?_ NB0_283.out _ | refine IsS83.far ?_ NB0_293.out _) | exact HI0.out), by repeat (first | (with_reducible first | exact HB.out | apply qF | apply qC | apply qE | refine qB ?_ (IsS83.ge HI0.out) | refine qB ?_ GE283.out | refine qB ?_ GE293.out) | exact HB.out), by repeat (first | (with_reducible first | exact HK.out | apply KeepBut.set_ | apply qK | apply qO | apply qL | refine qQ ?_ GW283.out _ | refine qQ ?_ GW293.out _) | exact HK.out)⟩
          · rw [if_neg c74] at H
            have c74b0 : (t294 == 4) = false := beq_eq_false_iff_ne.mpr c74
            have c74b1 : (t294 != 4) = true := bne_iff_ne.mpr c74
            by_cases c87 : t294 = 5
            · rw [if_pos c87] at H
              have c87b0 : (t294 == 5) = true := beq_iff_eq.mpr c87
              have c87b1 : (t294 != 5) = false := bne_eq_false_iff_eq.mpr c87
              clear c87
              have H' := Aside0.mk H
              clear H
              go_enter Try.func33, Try.ntmps33
              go_wp2_with (first | ((with_reducible refine zB (N := 2) rfl ?_); refine qZ ?hg (N := 2) ?hd (cs := #[.slice none 0 0, .slice none 0 0, .int .i64 0, .int .i64 0]) (t := 26) ?hr ?_; (case hd => rfl); (case hg => rfl); (case hr => first | (go_simp; done) | (go_simp; rfl)); intro gb283 hg w88 hbox hb; have n0_ := Aside0.mk (IsS83.below (by repeat (first | (with_reducible first | exact HI0.out | apply IsS83.alloc | apply IsS83.drewN | apply IsS83.drew | apply IsS83.set_1) | exact HI0.out)) hb); have n1_ := Aside0.mk (KeepBut.trans (by repeat (first | (with_reducible first | exact HK.out | apply KeepBut.set_ | apply qK | apply qO | apply qL) | exact HK.out)) (KeepBut.of_below hb g none) (.inl rfl)); have n2_ := Aside0.mk (qN (by repeat (first | (with_reducible first | exact HB.out | apply qF | apply qC | apply qE | refine qB ?_ (IsS83.ge HI0.out)) | exact HB.out)) hb); have n3_ := Aside0.mk (hbox); have n4_ := Aside0.mk ((by rw [hg]; exact (zF (w := w) (g := g) (row := none) (by repeat (first | (with_reducible first | exact HK.out | apply KeepBut.set_ | apply qK | apply qO | apply qL) | exact HK.out))) : w.heap.size ≤ gb283)); have n5_ := Aside0.mk ((Nat.le_trans HW0.out (by rw [hg]; exact (zF (w := w) (g := g) (row := none) (by repeat (first | (with_reducible first | exact HK.out | apply KeepBut.set_ | apply qK | apply qO | apply qL) | exact HK.out))) : w.heap.size ≤ gb283) : w0.heap.size ≤ gb283)); have n6_ := Aside0.mk ((by rw [hg]; exact Nat.ne_of_lt (IsS83.lt (show IsS83 w0 _ g s0_0 s0_1 from by repeat (first | (with_reducible first | exact HI0.out | apply IsS83.alloc | apply IsS83.drewN | apply IsS83.drew | apply IsS83.set_1) | exact HI0.out))) : g ≠ gb283)); have n7_ := Aside0.mk ((by rw [hg]; exact Nat.ne_of_gt (IsS83.lt (show IsS83 w0 _ g s0_0 s0_1 from by repeat (first | (with_reducible first | exact HI0.out | apply IsS83.alloc | apply IsS83.drewN | apply IsS83.drew | apply IsS83.set_1) | exact HI0.out))) : gb283 ≠ g)); clear HI0; clear HK; clear HB; have HI0 := n0_; have HK := n1_; have HB := n2_; have BK283 := n3_; have GW283 := n4_; have GE283 := n5_; have NB0_283 := n6_; have NB283_0 := n7_; clear n0_ n1_ n2_ n3_ n4_ n5_ n6_ n7_; clear hb hbox hg) | ((with_reducible refine qT (f := 65) rfl ?_); refine zL (some 5) rfl rfl Try.func65 (by kernel_rfl) rfl #[.pointer (some ⟨g, 0, none⟩)] rfl (by (try simp only [List.map_toArray, List.map_cons, List.map_nil]); first | done | rfl | (simp only [List.length_drop, List.length_take]; rfl)) ?_; (with_reducible refine (spec_l15Disk.calls k g s0_0 s0_1 t284 t287 t290 t291 t292 w0 _ ?side1 ?side2 A2.out).mono ?_); (case side1 => repeat (first | (with_reducible first | exact HI0.out | apply IsS83.alloc | apply IsS83.drewN | apply IsS83.drew | apply IsS83.set_1 | refine IsS83.far ?_ NB0_283.out _) | exact HI0.out)); (case side2 => repeat (first | (with_reducible first | exact HB.out | apply qF | apply qC | apply qE | refine qB ?_ (IsS83.ge HI0.out) | refine qB ?_ GE283.out) | exact HB.out)); rintro e w89 ⟨v285, v288, rfl, ho0, ho1, hi, hb, hk⟩; refine ⟨_, rfl, ?_⟩; have n0_ := Aside0.mk (KeepBut.blk hk (g' := gb283) (o := .cells #[.slice none 0 0, .slice none 0 0, .int .i64 0, .int .i64 0] 26 (0, 0)) (bw_ BK283.out) NB283_0.out (by simp)); have n1_ := Aside0.mk (Kd.zJ ho0 (zF (w := w) (g := g) (row := none) (by repeat (first | (with_reducible first | exact HK.out | apply KeepBut.set_ | apply qK | apply qO | apply qL | refine qQ ?_ GW283.out _) | exact HK.out)))); have n2_ := Aside0.mk (Kd.zJ ho1 (zF (w := w) (g := g) (row := none) (by repeat (first | (with_reducible first | exact HK.out | apply KeepBut.set_ | apply qK | apply qO | apply qL | refine qQ ?_ GW283.out _) | exact HK.out)))); have n3_ := Aside0.mk (KeepBut.trans (by repeat (first | (with_reducible first | exact HK.out | apply KeepBut.set_ | apply qK | apply qO | apply qL | refine qQ ?_ GW283.out _) | exact HK.out)) hk (.inl rfl)); have n4_ := Aside0.mk (hb); have n5_ := Aside0.mk (hi); clear BK283; clear HK; clear HB; clear HI0; have BK283 := n0_; have HO286 := n1_; have HO289 := n2_; have HK := n3_; have HB := n4_; have HI0 := n5_; clear n0_ n1_ n2_ n3_ n4_ n5_; (try clear hb); (try clear hb2); (try clear hk); (try clear hi); (try clear ho0); (try clear ho1)) | ((with_reducible refine zB (N := 3) rfl ?_); refine qZ ?hg (N := 3) ?hd (cs := #[.slice none 0 0, .slice none 0 0, .int .i64 0, .int .i64 0]) (t := 26) ?hr ?_; (case hd => rfl); (case hg => rfl); (case hr => first | (go_simp; done) | (go_simp; rfl)); intro gb293 hg w90 hbox hb; have n0_ := Aside0.mk (Kd.qU (rw_ HO286.out) hb); have n1_ := Aside0.mk (Kd.qU (rw_ HO289.out) hb); have n2_ := Aside0.mk (IsS83.below (by repeat (first | (with_reducible first | exact HI0.out | apply IsS83.alloc | apply IsS83.drewN | apply IsS83.drew | apply IsS83.set_1 | refine IsS83.far ?_ NB0_283.out _) | exact HI0.out)) hb); have n3_ := Aside0.mk (qJ (g := gb283) (o := .cells #[.slice none 0 0, .slice none 0 0, .int .i64 0, .int .i64 0] 26 (0, 0)) (bw_ BK283.out) hb); have n4_ := Aside0.mk (KeepBut.trans (by repeat (first | (with_reducible first | exact HK.out | apply KeepBut.set_ | apply qK | apply qO | apply qL | refine qQ ?_ GW283.out _) | exact HK.out)) (KeepBut.of_below hb g none) (.inl rfl)); have n5_ := Aside0.mk (qN (by repeat (first | (with_reducible first | exact HB.out | apply qF | apply qC | apply qE | refine qB ?_ (IsS83.ge HI0.out) | refine qB ?_ GE283.out) | exact HB.out)) hb); have n6_ := Aside0.mk (hbox); have n7_ := Aside0.mk ((by rw [hg]; exact (zF (w := w) (g := g) (row := none) (by repeat (first | (with_reducible first | exact HK.out | apply KeepBut.set_ | apply qK | apply qO | apply qL | refine qQ ?_ GW283.out _) | exact HK.out))) : w.heap.size ≤ gb293)); have n8_ := Aside0.mk ((Nat.le_trans HW0.out (by rw [hg]; exact (zF (w := w) (g := g) (row := none) (by repeat (first | (with_reducible first | exact HK.out | apply KeepBut.set_ | apply qK | apply qO | apply qL | refine qQ ?_ GW283.out _) | exact HK.out))) : w.heap.size ≤ gb293) : w0.heap.size ≤ gb293)); have n9_ := Aside0.mk ((by rw [hg]; exact Nat.ne_of_lt (zE (g := gb283) (o := .cells #[.slice none 0 0, .slice none 0 0, .int .i64 0, .int .i64 0] 26 (0, 0)) (bw_ BK283.out)) : gb283 ≠ gb293)); have n10_ := Aside0.mk ((by rw [hg]; exact Nat.ne_of_gt (zE (g := gb283) (o := .cells #[.slice none 0 0, .slice none 0 0, .int .i64 0, .int .i64 0] 26 (0, 0)) (bw_ BK283.out)) : gb293 ≠ gb283)); have n11_ := Aside0.mk ((by rw [hg]; exact Nat.ne_of_lt (IsS83.lt (show IsS83 w0 _ g s0_0 t292 from by repeat (first | (with_reducible first | exact HI0.out | apply IsS83.alloc | apply IsS83.drewN | apply IsS83.drew | apply IsS83.set_1 | refine IsS83.far ?_ NB0_283.out _) | exact HI0.out))) : g ≠ gb293)); have n12_ := Aside0.mk ((by rw [hg]; exact Nat.ne_of_gt (IsS83.lt (show IsS83 w0 _ g s0_0 t292 from by repeat (first | (with_reducible first | exact HI0.out | apply IsS83.alloc | apply IsS83.drewN | apply IsS83.drew | apply IsS83.set_1 | refine IsS83.far ?_ NB0_283.out _) | exact HI0.out))) : gb293 ≠ g)); clear HO286; clear HO289; clear HI0; clear BK283; clear HK; clear HB; have HO286 := n0_; have HO289 := n1_; have HI0 := n2_; have BK283 := n3_; have HK := n4_; have HB := n5_; have BK293 := n6_; have GW293 := n7_; have GE293 := n8_; have NB283_293 := n9_; have NB293_283 := n10_; have NB0_293 := n11_; have NB293_0 := n12_; clear n0_ n1_ n2_ n3_ n4_ n5_ n6_ n7_ n8_ n9_ n10_ n11_ n12_; clear hb hbox hg; obtain ⟨Ao91, co91, eo91⟩ := Kd.zG HO286.out; subst eo91; have hnb92 := NB293_283.out; have hnc92 := NB283_293.out; have hnb93 := NB293_0.out; have hnc93 := NB0_293.out; have hcz94_0 : w90.cell? ⟨gb293, 0, none⟩ = some (.slice none 0 0) := (qA BK293.out 0).trans rfl; have hcz94_1 : w90.cell? ⟨gb293, 1, none⟩ = some (.slice none 0 0) := (qA BK293.out 1).trans rfl; have hcz94_2 : w90.cell? ⟨gb293, 2, none⟩ = some (.int .i64 0) := (qA BK293.out 2).trans rfl; have hcz94_3 : w90.cell? ⟨gb293, 3, none⟩ = some (.int .i64 0) := (qA BK293.out 3).trans rfl; have hfz94_0 := qD BK293.out 0; have hfz94_1 := qD BK293.out 1; have hfz94_2 := qD BK293.out 2; have hfz94_3 := qD BK293.out 3; obtain ⟨Ao95, co95, eo95⟩ := Kd.zG HO289.out; subst eo95) | ((with_reducible refine qT (f := 34) rfl ?_); refine zL (some 7) rfl rfl Try.func34 (by kernel_rfl) rfl #[.pointer (some ⟨g, 0, none⟩), .int .i64 24] rfl (by (try simp only [List.map_toArray, List.map_cons, List.map_nil]); first | done | rfl | (simp only [List.length_drop, List.length_take]; rfl)) ?_; (with_reducible refine (spec_l1Rd_pick.calls k g s0_0 t292 24 t294 t295 w0 _ ?side1 ?side2 A3.out).mono ?_); (case side1 => repeat (first | (with_reducible first | exact HI0.out | apply IsS83.alloc | apply IsS83.drewN | apply IsS83.drew | apply IsS83.set_1 | refine IsS83.far ?_ NB0_283.out _ | refine IsS83.far ?_ NB0_293.out _) | exact HI0.out)); (case side2 => repeat (first | (with_reducible first | exact HB.out | apply qF | apply qC | apply qE | refine qB ?_ (IsS83.ge HI0.out) | refine qB ?_ GE283.out | refine qB ?_ GE293.out) | exact HB.out)); rintro e w96 ⟨rfl, hi, hb, hk⟩; refine ⟨_, rfl, ?_⟩; have n0_ := Aside0.mk (KeepBut.blk hk (g' := gb283) (o := .cells #[.slice none 0 0, .slice none 0 0, .int .i64 0, .int .i64 0] 26 (0, 0)) (by (with_reducible repeat (first | refine qH ?_ _ | refine qI ?_ | refine qG ?_ _)); refine qR ?_ NB283_293.out _; (with_reducible repeat (first | refine qH ?_ _ | refine qI ?_ | refine qG ?_ _)); refine qR ?_ NB283_293.out _; (with_reducible repeat (first | refine qH ?_ _ | refine qI ?_ | refine qG ?_ _)); refine qR ?_ NB283_293.out _; (with_reducible repeat (first | refine qH ?_ _ | refine qI ?_ | refine qG ?_ _)); refine qR ?_ NB283_293.out _; (with_reducible repeat (first | refine qH ?_ _ | refine qI ?_ | refine qG ?_ _)); exact BK283.out) NB283_0.out (by simp)); have n1_ := Aside0.mk (Kd.qS (Kd.zM (IsS83.apart (show IsS83 w0 _ g s0_0 t292 from by repeat (first | (with_reducible first | exact HI0.out | apply IsS83.alloc | apply IsS83.drewN | apply IsS83.drew | apply IsS83.set_1 | refine IsS83.far ?_ NB0_283.out _ | refine IsS83.far ?_ NB0_293.out _) | exact HI0.out)) (by (with_reducible repeat (first | apply Kd.qX | apply Kd.qV | apply Kd.qW)); exact (Kd.qS (Kd.R_far (p := ⟨gb293, 3, none⟩) (Kd.R_far (p := ⟨gb293, 2, none⟩) (Kd.R_far (p := ⟨gb293, 1, none⟩) (Kd.R_far (p := ⟨gb293, 0, none⟩) (Kd.qY HO286.out BK293.out (by decide)) (fun _ hk => hk.2) (.slice Ao91 t284.length co91)) (fun _ hk => hk.2) (.slice Ao95 t287.length co95)) (fun _ hk => hk.2) (.int .i64 t290)) (fun _ hk => hk.2) (.int .i64 t291)) (fun _ h_ => h_.1))) (by decide)) hk (fun _ h => h.2)) (fun _ h => h.1)); have n2_ := Aside0.mk (Kd.qS (Kd.zM (IsS83.apart (show IsS83 w0 _ g s0_0 t292 from by repeat (first | (with_reducible first | exact HI0.out | apply IsS83.alloc | apply IsS83.drewN | apply IsS83.drew | apply IsS83.set_1 | refine IsS83.far ?_ NB0_283.out _ | refine IsS83.far ?_ NB0_293.out _) | exact HI0.out)) (by (with_reducible repeat (first | apply Kd.qX | apply Kd.qV | apply Kd.qW)); exact (Kd.qS (Kd.R_far (p := ⟨gb293, 3, none⟩) (Kd.R_far (p := ⟨gb293, 2, none⟩) (Kd.R_far (p := ⟨gb293, 1, none⟩) (Kd.R_far (p := ⟨gb293, 0, none⟩) (Kd.qY HO289.out BK293.out (by decide)) (fun _ hk => hk.2) (.slice Ao91 t284.length co91)) (fun _ hk => hk.2) (.slice Ao95 t287.length co95)) (fun _ hk => hk.2) (.int .i64 t290)) (fun _ hk => hk.2) (.int .i64 t291)) (fun _ h_ => h_.1))) (by decide)) hk (fun _ h => h.2)) (fun _ h => h.1)); have n3_ := Aside0.mk (KeepBut.blk hk (g' := gb293) (o := .cells #[.slice Ao91 t284.length co91, .slice Ao95 t287.length co95, .int .i64 t290, .int .i64 t291] 26 (0, 0)) (by (with_reducible repeat (first | refine qH ?_ _ | refine qI ?_ | refine qG ?_ _)); refine qP (cs := #[.slice Ao91 t284.length co91, .slice Ao95 t287.length co95, .int .i64 t290, .int .i64 0]) ?_ 3 _ rfl; (with_reducible repeat (first | refine qH ?_ _ | refine qI ?_ | refine qG ?_ _)); refine qP (cs := #[.slice Ao91 t284.length co91, .slice Ao95 t287.length co95, .int .i64 0, .int .i64 0]) ?_ 2 _ rfl; (with_reducible repeat (first | refine qH ?_ _ | refine qI ?_ | refine qG ?_ _)); refine qP (cs := #[.slice Ao91 t284.length co91, .slice none 0 0, .int .i64 0, .int .i64 0]) ?_ 1 _ rfl; (with_reducible repeat (first | refine qH ?_ _ | refine qI ?_ | refine qG ?_ _)); refine qP (cs := #[.slice none 0 0, .slice none 0 0, .int .i64 0, .int .i64 0]) ?_ 0 _ rfl; (with_reducible repeat (first | refine qH ?_ _ | refine qI ?_ | refine qG ?_ _)); exact BK293.out) NB293_0.out (by simp)); have n4_ := Aside0.mk (KeepBut.trans (by repeat (first | (with_reducible first | exact HK.out | apply KeepBut.set_ | apply qK | apply qO | apply qL | refine qQ ?_ GW283.out _ | refine qQ ?_ GW293.out _) | exact HK.out)) hk (.inl rfl)); have n5_ := Aside0.mk (hb); have n6_ := Aside0.mk (hi); clear BK283; clear HO286; clear HO289; clear BK293; clear HK; clear HB; clear HI0; have BK283 := n0_; have HO286 := n1_; have HO289 := n2_; have BK293 := n3_; have HK := n4_; have HB := n5_; have HI0 := n6_; clear n0_ n1_ n2_ n3_ n4_ n5_ n6_; (try clear hb); (try clear hb2); (try clear hk); (try clear hi)))
              go_loopg [] k (fun kq w' => ∃ (x1001_1 : Int) (x294001_1 : List (S70)) (u294001 : Value), Aside0 (spec_l15AnyDisk.l0 kq s0_0 x1001_1 t284 x294001_1 t290 t291 = some (r1, r2, r3, r4, r5)) ∧ Aside0 (kq ≤ k) ∧ Aside0 (Kd.Q Kd.string 9 w' w.heap.size (fun _ => True) (.slice Ao91 t284.length co91) t284) ∧ Aside0 (Kd.R k70 70 w' w.heap.size (fun _ => True) u294001 x294001_1) ∧ Aside0 (w'.heap[gb283]? = some (.cells #[(.slice none 0 0), (.slice none 0 0), .int .i64 0, .int .i64 0] 26 (0, 0))) ∧ Aside0 (w'.heap[gb293]? = some (.cells #[(.slice Ao91 t284.length co91), u294001, .int .i64 t290, .int .i64 t291] 26 (0, 0))) ∧ Aside0 (IsS83 w0 w' g s0_0 x1001_1) ∧ Aside0 (KeepBut w w' g none) ∧ Aside0 (Below w0.heap.size w0 w'))
              case atStart => exact ⟨(t295), (t287), (.slice Ao95 t287.length co95), H', ⟨Nat.le_refl _⟩, ⟨Kd.Q_of_R (rw_ HO286.out)⟩, ⟨by (with_reducible repeat (first | apply Kd.qX | apply Kd.qV | apply Kd.qW)); exact HO289.out⟩, ⟨by (with_reducible repeat (first | refine qH ?_ _ | refine qI ?_ | refine qG ?_ _)); exact BK283.out⟩, ⟨by (with_reducible repeat (first | refine qH ?_ _ | refine qI ?_ | refine qG ?_ _)); exact BK293.out⟩, ⟨by repeat (first | (with_reducible first | exact HI0.out | apply IsS83.alloc | apply IsS83.drewN | apply IsS83.drew | apply IsS83.set_1 | refine IsS83.far ?_ NB0_283.out _ | refine IsS83.far ?_ NB0_293.out _) | exact HI0.out)⟩, ⟨by repeat (first | (with_reducible first | exact HK.out | apply KeepBut.set_ | apply qK | apply qO | apply qL | refine qQ ?_ GW283.out _ | refine qQ ?_ GW293.out _) | exact HK.out)⟩, ⟨by repeat (first | (with_reducible first | exact HB.out | apply qF | apply qC | apply qE | refine qB ?_ (IsS83.ge HI0.out) | refine qB ?_ GE283.out | refine qB ?_ GE293.out) | exact HB.out)⟩⟩
              case round =>
                clear H'
                try clear c1
                try clear q1
                try clear c2
                try clear p2
                try clear c3
                try clear c4
                try clear c4b0
                try clear c4b1
                try clear c5
                try clear c5b0
                try clear c5b1
                try clear p5
                try clear q5
                try clear hx5
                try clear qi5
                try clear hf5
                try clear c6
                try clear c7
                try clear c8
                try clear c9
                try clear c10
                try clear c11
                try clear c16
                try clear q16
                try clear c17
                try clear c19
                try clear c19b0
                try clear c19b1
                try clear c24
                try clear c25
                try clear c30
                try clear c32
                try clear c32b0
                try clear c32b1
                try clear c33
                try clear c34
                try clear c39
                try clear c40
                try clear c41
                try clear c53
                try clear c55
                try clear c55b0
                try clear c55b1
                try clear c57
                try clear c57b0
                try clear c57b1
                try clear p58
                try clear q58
                try clear hx58
                try clear qi58
                try clear hf58
                try clear c63
                try clear c64
                try clear c65
                try clear c72
                try clear c74
                try clear c74b0
                try clear c74b1
                try clear c79
                try clear c80
                try clear c85
                try clear c87
                try clear c87b0
                try clear c87b1
                try clear c92
                try clear c93
                try clear hcz12_0
                try clear hcz12_1
                try clear hcz12_2
                try clear hcz12_3
                try clear hcz15_0
                try clear hcz15_1
                try clear hcz15_2
                try clear hcz15_3
                try clear hcz18_0
                try clear hcz18_1
                try clear hcz18_2
                try clear hcz18_3
                try clear hcz26_0
                try clear hcz26_1
                try clear hcz26_2
                try clear hcz26_3
                try clear hcz29_0
                try clear hcz29_1
                try clear hcz29_2
                try clear hcz29_3
                try clear hcz31_0
                try clear hcz31_1
                try clear hcz31_2
                try clear hcz31_3
                try clear hcz41_0
                try clear hcz41_1
                try clear hcz41_2
                try clear hcz41_3
                try clear hcz52_0
                try clear hcz52_1
                try clear hcz52_2
                try clear hcz52_3
                try clear hcz54_0
                try clear hcz54_1
                try clear hcz54_2
                try clear hcz54_3
                try clear hcz65_0
                try clear hcz65_1
                try clear hcz65_2
                try clear hcz65_3
                try clear hcz71_0
                try clear hcz71_1
                try clear hcz71_2
                try clear hcz71_3
                try clear hcz73_0
                try clear hcz73_1
                try clear hcz73_2
                try clear hcz73_3
                try clear hcz81_0
                try clear hcz81_1
                try clear hcz81_2
                try clear hcz81_3
                try clear hcz84_0
                try clear hcz84_1
                try clear hcz84_2
                try clear hcz84_3
                try clear hcz86_0
                try clear hcz86_1
                try clear hcz86_2
                try clear hcz86_3
                try clear hcz94_0
                try clear hcz94_1
                try clear hcz94_2
                try clear hcz94_3
                try clear hfz12_0
                try clear hfz12_1
                try clear hfz12_2
                try clear hfz12_3
                try clear hfz15_0
                try clear hfz15_1
                try clear hfz15_2
                try clear hfz15_3
                try clear hfz18_0
                try clear hfz18_1
                try clear hfz18_2
                try clear hfz18_3
                try clear hfz26_0
                try clear hfz26_1
                try clear hfz26_2
                try clear hfz26_3
                try clear hfz29_0
                try clear hfz29_1
                try clear hfz29_2
                try clear hfz29_3
                try clear hfz31_0
                try clear hfz31_1
                try clear hfz31_2
                try clear hfz31_3
                try clear hfz41_0
                try clear hfz41_1
                try clear hfz41_2
                try clear hfz41_3
                try clear hfz52_0
                try clear hfz52_1
                try clear hfz52_2
                try clear hfz52_3
                try clear hfz54_0
                try clear hfz54_1
                try clear hfz54_2
                try clear hfz54_3
                try clear hfz65_0
                try clear hfz65_1
                try clear hfz65_2
                try clear hfz65_3
                try clear hfz71_0
                try clear hfz71_1
                try clear hfz71_2
                try clear hfz71_3
                try clear hfz73_0
                try clear hfz73_1
                try clear hfz73_2
                try clear hfz73_3
                try clear hfz81_0
                try clear hfz81_1
                try clear hfz81_2
                try clear hfz81_3
                try clear hfz84_0
                try clear hfz84_1
                try clear hfz84_2
                try clear hfz84_3
                try clear hfz86_0
                try clear hfz86_1
                try clear hfz86_2
                try clear hfz86_3
                try clear hfz94_0
                try clear hfz94_1
                try clear hfz94_2
                try clear hfz94_3
                try clear hx58_0
                try clear p58
                try clear q16
                try clear q58
                obtain ⟨x1001_1, x294001_1, u294001, HA, HK1, HO_294000, HO_294001, BK283, BK293, HI0, HK, HB⟩ := hrel
                cases gk with
                | zero => exact absurd HA.out (by simp [spec_l15AnyDisk.l0])
                | succ k1 =>
                  have H := HA.out
                  clear HA
                  simp only [spec_l15AnyDisk.l0] at H
                  replace H := Option.bind_eq_some_iff.mp H
                  obtain ⟨⟨t309, t310⟩, A970, H⟩ := H
                  replace H : (if (x294001_1.length : Int) < (wrap64 (100 + t309)) then (if x294001_1.length < 5864062014805 then (spec_l15AnyDisk.l0 k1 s0_0 t310 t284 (x294001_1 ++ [(⟨5, (⟨#[119]⟩ : ByteArray)⟩ : S70)]) t290 t291) else (none)) else (some (t284, x294001_1, t290, t291, t310))) = some (r1, r2, r3, r4, r5) := H
                  have A97 := Aside0.mk A970
                  clear A970
                  by_cases c98 : (x294001_1.length : Int) < (wrap64 (100 + t309))
                  · rw [if_pos c98] at H
                    have c98b0 : decide ((x294001_1.length : Int) < (wrap64 (100 + t309))) = true := decide_eq_true c98
                    clear c98
                    by_cases c99 : x294001_1.length < 5864062014805
                    · rw [if_pos c99] at H
                      have LMc99 := Aside0.mk c99
                      clear c99
                      obtain ⟨y311, hy311⟩ : ∃ y_ : List (S70), y_ = (x294001_1 ++ [(⟨5, (⟨#[119]⟩ : ByteArray)⟩ : S70)]) := ⟨_, rfl⟩
                      replace H : (spec_l15AnyDisk.l0 k1 s0_0 t310 t284 y311 t290 t291) = some (r1, r2, r3, r4, r5) := by first | (rw [hy311]; with_reducible exact H) | (have H2_ := (Option.bind_some _ _).symm.trans H; rw [hy311]; with_reducible exact H2_) | (have H2_ := (Option.bind_some _ _).symm.trans H; with_reducible exact H2_) | with_reducible exact H | (rw [hy311]; exact H) | exact H
                      have Ny311 := Aside0.mk hy311
                      clear hy311
                      have H' := Aside0.mk H
                      clear H
                      try go_wp2
                      have n0_ := Aside0.mk (Kd.zS HO_294000.out)
                      have n1_ := Aside0.mk (Kd.qW HO_294001.out)
                      have n2_ := Aside0.mk (qI BK283.out)
                      have n3_ := Aside0.mk (qI BK293.out)
                      have n4_ := Aside0.mk (IsS83.drew HI0.out)
                      have n5_ := Aside0.mk (qO HK.out)
                      have n6_ := Aside0.mk (qE HB.out)
                      clear HO_294000
                      clear HO_294001
                      clear BK283
                      clear BK293
                      clear HI0
                      clear HK
                      clear HB
                      have HO_294000 := n0_
                      have HO_294001 := n1_
                      have BK283 := n2_
                      have BK293 := n3_
                      have HI0 := n4_
                      have HK := n5_
                      have HB := n6_
                      clear n0_ n1_ n2_ n3_ n4_ n5_ n6_
                      obtain ⟨Ao101, co101, eo101⟩ := Kd.zG HO_294001.out
                      (first | subst eo101 | (injection eo101 with f1_ f2_ f3_; have f4_ := f1_.symm; have f5_ := f3_.symm; clear f1_ f2_ f3_; subst f4_; subst f5_))
                      refine start_ (n := 7) (S := fun w' => w'.cell? ⟨gb293, 0, none⟩ = some (.slice Ao91 t284.length co91) ∧ w'.cell? ⟨gb293, 1, none⟩ = some (.slice Ao101 x294001_1.length co101) ∧ w'.cell? ⟨gb293, 2, none⟩ = some (.int .i64 t290) ∧ w'.cell? ⟨gb293, 3, none⟩ = some (.int .i64 t291)) (ds := []) #[false, false, false, false, false, false, false] (by kernel_rfl) rfl rfl ⟨(qA BK293.out 0).trans rfl, (qA BK293.out 1).trans rfl, (qA BK293.out 2).trans rfl, (qA BK293.out 3).trans rfl⟩ (fun hHeld => ?_)
                      generalize wr.drew = w100 at HO_294000 HO_294001 BK283 BK293 HI0 HK HB hHeld ⊢
                      refine pure_ (i := 0) (N := some 39) (v := ?_) (a' := ?_) #[true, false, false, false, false, false, false] rfl rfl (by kernel_rfl) (fun _ _ _ h => h) (Or.inl ⟨by rfl, ?_⟩) ?_ ?_
                      rotate_left
                      · intro w'
                        go_simp
                        with_reducible rfl
                      rotate_left
                      · simp only [Act.put, List.setIfInBounds_toArray, List.set_cons_zero, List.set_cons_succ, i64_w, i32_w]
                        rfl
                      refine pure_ (i := 3) (N := some 42) (v := ?_) (a' := ?_) #[true, false, false, true, false, false, false] rfl rfl (by kernel_rfl) (fun _ _ _ h => h) (Or.inl ⟨by rfl, ?_⟩) ?_ ?_
                      rotate_left
                      · intro w'
                        go_simp
                        with_reducible rfl
                      rotate_left
                      · simp only [Act.put, List.setIfInBounds_toArray, List.set_cons_zero, List.set_cons_succ, i64_w, i32_w]
                        rfl
                      refine take_ (i := 1) (N := some 40) (v := ?_) (a' := ?_) #[true, true, false, true, false, false, false] rfl rfl (by kernel_rfl) (fun _ _ _ h => h) (Or.inl ⟨by rfl, ?_⟩) hHeld ?_ ?_
                      rotate_left
                      · rintro w' ⟨s0, s1, s2, s3⟩
                        go_simp
                        with_reducible rfl
                      rotate_left
                      · simp only [Act.put, List.setIfInBounds_toArray, List.set_cons_zero, List.set_cons_succ, i64_w, i32_w]
                        rfl
                      refine pure_ (i := 2) (N := some 41) (v := ?_) (a' := ?_) #[true, true, true, true, false, false, false] rfl rfl (by kernel_rfl) (fun _ _ _ h => h) (Or.inl ⟨by rfl, ?_⟩) ?_ ?_
                      rotate_left
                      · intro w'
                        go_simp
                        with_reducible rfl
                      rotate_left
                      · simp only [Act.put, List.setIfInBounds_toArray, List.set_cons_zero, List.set_cons_succ, i64_w, i32_w]
                        rfl
                      refine one_ (i := 4) (N := some 43) #[true, true, true, true, true, false, false] rfl rfl (by kernel_rfl) (by decide) (fun K hK => ?_)
                      refine goes_ Try.func34 (by kernel_rfl) rfl #[.pointer (some ⟨g, 0, none⟩), .int .i64 2] (by rfl) rfl rfl (by (try simp only [List.map_toArray, List.map_cons, List.map_nil]); first | done | rfl | (simp only [List.length_drop, List.length_take]; rfl)) ?_
                      with_reducible refine (spec_l1Rd_pick.calls k1 g s0_0 x1001_1 2 t309 t310 w0 _ ?side1 ?side2 A97.out).mono ?_
                      (case side1 => repeat (first | (with_reducible first | exact HI0.out | apply IsS83.alloc | apply IsS83.drewN | apply IsS83.drew | apply IsS83.set_1 | refine IsS83.far ?_ NB0_283.out _ | refine IsS83.far ?_ NB0_293.out _) | exact HI0.out))
                      (case side2 => repeat (first | (with_reducible first | exact HB.out | apply qF | apply qC | apply qE | refine qB ?_ (IsS83.ge HI0.out) | refine qB ?_ GE283.out | refine qB ?_ GE293.out) | exact HB.out))
                      rintro e w102 ⟨rfl, hi, hb, hk⟩
                      refine ⟨_, rfl, ?_⟩
                      have n0_ := Aside0.mk (Kd.zU (Kd.Q_keep (IsS83.apartQ (show IsS83 w0 _ g s0_0 x1001_1 from by repeat (first | (with_reducible first | exact HI0.out | apply IsS83.alloc | apply IsS83.drewN | apply IsS83.drew | apply IsS83.set_1 | refine IsS83.far ?_ NB0_283.out _ | refine IsS83.far ?_ NB0_293.out _) | exact HI0.out)) (qw_ HO_294000.out) (by decide)) hk (fun _ h => h.2)) (fun _ h => h.1))
                      have n1_ := Aside0.mk (Kd.qS (Kd.zM (IsS83.apart (show IsS83 w0 _ g s0_0 x1001_1 from by repeat (first | (with_reducible first | exact HI0.out | apply IsS83.alloc | apply IsS83.drewN | apply IsS83.drew | apply IsS83.set_1 | refine IsS83.far ?_ NB0_283.out _ | refine IsS83.far ?_ NB0_293.out _) | exact HI0.out)) (rw_ HO_294001.out) (by decide)) hk (fun _ h => h.2)) (fun _ h => h.1))
                      have n2_ := Aside0.mk (KeepBut.blk hk (g' := gb283) (o := .cells #[.slice none 0 0, .slice none 0 0, .int .i64 0, .int .i64 0] 26 (0, 0)) (bw_ BK283.out) NB283_0.out (by simp))
                      have n3_ := Aside0.mk (KeepBut.blk hk (g' := gb293) (o := .cells #[.slice Ao91 t284.length co91, .slice Ao101 x294001_1.length co101, .int .i64 t290, .int .i64 t291] 26 (0, 0)) (bw_ BK293.out) NB293_0.out (by simp))
                      have n4_ := Aside0.mk (KeepBut.trans (by repeat (first | (with_reducible first | exact HK.out | apply KeepBut.set_ | apply qK | apply qO | apply qL | refine qQ ?_ GW283.out _ | refine qQ ?_ GW293.out _) | exact HK.out)) hk (.inl rfl))
                      have n5_ := Aside0.mk (hb)
                      have n6_ := Aside0.mk (hi)
                      clear HO_294000
                      clear HO_294001
                      clear BK283
                      clear BK293
                      clear HK
                      clear HB
                      clear HI0
                      have HO_294000 := n0_
                      have HO_294001 := n1_
                      have BK283 := n2_
                      have BK293 := n3_
                      have HK := n4_
                      have HB := n5_
                      have HI0 := n6_
                      clear n0_ n1_ n2_ n3_ n4_ n5_ n6_
                      (try clear hb)
                      (try clear hb2)
                      (try clear hk)
                      (try clear hi)
                      refine hK.out _ _ ⟨(qA BK293.out 0).trans rfl, (qA BK293.out 1).trans rfl, (qA BK293.out 2).trans rfl, (qA BK293.out 3).trans rfl⟩ (fun hHeld => ?_)
                      clear hK K
                      refine norm_ (a' := ?_) ?_ ?_
                      rotate_left
                      · show Act.put _ (some 43) _ = _
                        simp only [Act.put, List.setIfInBounds_toArray, List.set_cons_zero, List.set_cons_succ, i64_w, i32_w]
                        rfl
                      refine pure_ (i := 5) (N := some 44) (v := ?_) (a' := ?_) #[true, true, true, true, true, true, false] rfl rfl (by kernel_rfl) (fun _ _ _ h => h) (Or.inl ⟨by rfl, ?_⟩) ?_ ?_
                      rotate_left
                      · intro w'
                        go_simp
                        with_reducible rfl
                      rotate_left
                      · simp only [Act.put, List.setIfInBounds_toArray, List.set_cons_zero, List.set_cons_succ, i64_w, i32_w]
                        rfl
                      refine pure_ (i := 6) (N := some 45) (v := ?_) (a' := ?_) #[true, true, true, true, true, true, true] rfl rfl (by kernel_rfl) (fun _ _ _ h => h) (Or.inl ⟨by rfl, ?_⟩) ?_ ?_
                      rotate_left
                      · intro w'
                        go_simp
                        with_reducible rfl
                      rotate_left
                      · simp only [Act.put, List.setIfInBounds_toArray, List.set_cons_zero, List.set_cons_succ, i64_w, i32_w]
                        rfl
                      refine done_ (by kernel_rfl) ?_
                      have hnb103 := NB293_283.out
                      have hnc103 := NB283_293.out
                      have hnb104 := NB293_0.out
                      have hnc104 := NB0_293.out
                      have hcz105_0 : w102.cell? ⟨gb293, 0, none⟩ = some (.slice Ao91 t284.length co91) := (qA BK293.out 0).trans rfl
                      have hcz105_1 : w102.cell? ⟨gb293, 1, none⟩ = some (.slice Ao101 x294001_1.length co101) := (qA BK293.out 1).trans rfl
                      have hcz105_2 : w102.cell? ⟨gb293, 2, none⟩ = some (.int .i64 t290) := (qA BK293.out 2).trans rfl
                      have hcz105_3 : w102.cell? ⟨gb293, 3, none⟩ = some (.int .i64 t291) := (qA BK293.out 3).trans rfl
                      have hfz105_0 := qD BK293.out 0
                      have hfz105_1 := qD BK293.out 1
                      have hfz105_2 := qD BK293.out 2
                      have hfz105_3 := qD BK293.out 3
                      try go_wp2_with (first | ((with_reducible refine xH (b := .append) (xs := #[.tmp 47, .tmp 49]) rfl ?_); at_builtin; refine Kd.R_append k70 w.heap.size rfl (.tmp 47) (.tmp 49) 24 70 (.agg #[(.int .i64 0), (.string ⟨#[]⟩)]) 24 rfl Try.underlying24 info70 rfl (by decide) (by omega) (.slice Ao101 x294001_1.length co101) x294001_1 (⟨5, (⟨#[119]⟩ : ByteArray)⟩ : S70) [.int .i64 5, .string (⟨#[119]⟩ : ByteArray)] (fun _ => True) (fun _ => False) rfl rfl ?aP (fun _ hk => hk.elim) ?aF ?aO (Below.refl _ _) ?aS ?aL ?_; (case aP => exact k70_mkM _ _ _ (⟨5, (⟨#[119]⟩ : ByteArray)⟩ : S70)); (case aF => exact (fun _ _ => trivial)); (case aO => exact (rw_ HO_294001.out)); (case aS => exact (zF (w := w) (g := g) (row := none) (by repeat (first | (with_reducible first | exact HK.out | apply KeepBut.set_ | apply qK | apply qO | apply qL | refine qQ ?_ GW283.out _ | refine qQ ?_ GW293.out _) | exact HK.out)))); (case aL => have := LMc99.out; omega); intro v312 w106 ho hb hg hat; rw [← Ny311.out] at ho; have n0_ := Aside0.mk (Kd.Q_over' (qw_ HO_294000.out) (Kd.R_typed (rw_ HO_294001.out)) (by decide) hg); have n1_ := Aside0.mk (zT (g := gb283) (o := .cells #[.slice none 0 0, .slice none 0 0, .int .i64 0, .int .i64 0] 26 (0, 0)) (bw_ BK283.out) hg (Kd.R_ne HO_294001.out BK283.out (by decide))); have n2_ := Aside0.mk (zT (g := gb293) (o := .cells #[.slice Ao91 t284.length co91, .slice Ao101 x294001_1.length co101, .int .i64 t290, .int .i64 t291] 26 (0, 0)) (bw_ BK293.out) hg (Kd.R_ne HO_294001.out BK293.out (by decide))); have n3_ := Aside0.mk (IsS83.grown (by repeat (first | (with_reducible first | exact HI0.out | apply IsS83.alloc | apply IsS83.drewN | apply IsS83.drew | apply IsS83.set_1 | refine IsS83.far ?_ NB0_283.out _ | refine IsS83.far ?_ NB0_293.out _) | exact HI0.out)) hg (IsS83.own_ne HI0.out HO_294001.out (by decide))); have n4_ := Aside0.mk (below_weaken (by repeat (first | (with_reducible first | exact HB.out | apply qF | apply qC | apply qE | refine qB ?_ (IsS83.ge HI0.out) | refine qB ?_ GE283.out | refine qB ?_ GE293.out) | exact HB.out)) HL.out hb); have n5_ := Aside0.mk (KeepBut.trans (by repeat (first | (with_reducible first | exact HK.out | apply KeepBut.set_ | apply qK | apply qO | apply qL | refine qQ ?_ GW283.out _ | refine qQ ?_ GW293.out _) | exact HK.out)) (KeepBut.of_grown hg g) (Kd.R_base2 HO_294001.out)); have n6_ := Aside0.mk (ho); clear HO_294000; clear BK283; clear BK293; clear HI0; clear HB; clear HK; clear HO_294001; have HO_294000 := n0_; have BK283 := n1_; have BK293 := n2_; have HI0 := n3_; have HB := n4_; have HK := n5_; have HO313 := n6_; clear n0_ n1_ n2_ n3_ n4_ n5_ n6_; clear ho hb hg hat; obtain ⟨Ao107, co107, eo107⟩ := Kd.zG HO313.out; subst eo107; have hcz108_0 : w106.cell? ⟨gb293, 0, none⟩ = some (.slice Ao91 t284.length co91) := (qA BK293.out 0).trans rfl; have hcz108_1 : w106.cell? ⟨gb293, 1, none⟩ = some (.slice Ao101 x294001_1.length co101) := (qA BK293.out 1).trans rfl; have hcz108_2 : w106.cell? ⟨gb293, 2, none⟩ = some (.int .i64 t290) := (qA BK293.out 2).trans rfl; have hcz108_3 : w106.cell? ⟨gb293, 3, none⟩ = some (.int .i64 t291) := (qA BK293.out 3).trans rfl; have hfz108_0 := qD BK293.out 0; have hfz108_1 := qD BK293.out 1; have hfz108_2 := qD BK293.out 2; have hfz108_3 := qD BK293.out 3))
                      go_roundg k1
                      case measure => have := HK1.out; omega
                      case rel => exact ⟨(t310), (y311), (.slice Ao107 y311.length co107), H', ⟨by have := HK1.out; omega⟩, ⟨by (with_reducible repeat (first | apply Kd.zW | apply Kd.zX | apply Kd.zS)); exact Kd.zU (Kd.Q_far (p := ⟨gb293, 1, none⟩) (Kd.xA HO_294000.out BK293.out (by decide)) (fun _ hk => hk.2) (.slice Ao107 y311.length co107)) (fun _ hk => trivial)⟩, ⟨by (with_reducible repeat (first | apply Kd.qX | apply Kd.qV | apply Kd.qW)); exact Kd.qS (Kd.R_far (p := ⟨gb293, 1, none⟩) (Kd.qY HO313.out BK293.out (by decide)) (fun _ hk => hk.2) (.slice Ao107 y311.length co107)) (fun _ hk => trivial)⟩, ⟨by (with_reducible repeat (first | refine qH ?_ _ | refine qI ?_ | refine qG ?_ _)); refine qR ?_ NB283_293.out _; (with_reducible repeat (first | refine qH ?_ _ | refine qI ?_ | refine qG ?_ _)); exact BK283.out⟩, ⟨by (with_reducible repeat (first | refine qH ?_ _ | refine qI ?_ | refine qG ?_ _)); refine qP (cs := #[.slice Ao91 t284.length co91, .slice Ao101 x294001_1.length co101, .int .i64 t290, .int .i64 t291]) ?_ 1 _ rfl; (with_reducible repeat (first | refine qH ?_ _ | refine qI ?_ | refine qG ?_ _)); exact BK293.out⟩, ⟨by repeat (first | (with_reducible first | exact HI0.out | apply IsS83.alloc | apply IsS83.drewN | apply IsS83.drew | apply IsS83.set_1 | refine IsS83.far ?_ NB0_283.out _ | refine IsS83.far ?_ NB0_293.out _) | exact HI0.out)⟩, ⟨by repeat (first | (with_reducible first | exact HK.out | apply KeepBut.set_ | apply qK | apply qO | apply qL | refine qQ ?_ GW283.out _ | refine qQ ?_ GW293.out _) | exact HK.out)⟩, ⟨by repeat (first | (with_reducible first | exact HB.out | apply qF | apply qC | apply qE | refine qB ?_ (IsS83.ge HI0.out) | refine qB ?_ GE283.out | refine qB ?_ GE293.out) | exact HB.out)⟩⟩
                    · rw [if_neg c99] at H
                      exact absurd H (by simp)
                  · rw [if_neg c98] at H
                    have c98b0 : decide ((x294001_1.length : Int) < (wrap64 (100 + t309))) = false := decide_eq_false c98
                    clear c98
                    simp only [Option.some.injEq, Prod.mk.injEq] at H
                    obtain ⟨rfl, rfl, rfl, rfl, rfl⟩ := H
                    try go_wp2
                    have n0_ := Aside0.mk (Kd.zS HO_294000.out)
                    have n1_ := Aside0.mk (Kd.qW HO_294001.out)
                    have n2_ := Aside0.mk (qI BK283.out)
                    have n3_ := Aside0.mk (qI BK293.out)
                    have n4_ := Aside0.mk (IsS83.drew HI0.out)
                    have n5_ := Aside0.mk (qO HK.out)
                    have n6_ := Aside0.mk (qE HB.out)
                    clear HO_294000
                    clear HO_294001
                    clear BK283
                    clear BK293
                    clear HI0
                    clear HK
                    clear HB
                    have HO_294000 := n0_
                    have HO_294001 := n1_
                    have BK283 := n2_
                    have BK293 := n3_
                    have HI0 := n4_
                    have HK := n5_
                    have HB := n6_
                    clear n0_ n1_ n2_ n3_ n4_ n5_ n6_
                    obtain ⟨Ao110, co110, eo110⟩ := Kd.zG HO_294001.out
                    (first | subst eo110 | (injection eo110 with f1_ f2_ f3_; have f4_ := f1_.symm; have f5_ := f3_.symm; clear f1_ f2_ f3_; subst f4_; subst f5_))
                    refine start_ (n := 7) (S := fun w' => w'.cell? ⟨gb293, 0, none⟩ = some (.slice Ao91 t284.length co91) ∧ w'.cell? ⟨gb293, 1, none⟩ = some (.slice Ao110 x294001_1.length co110) ∧ w'.cell? ⟨gb293, 2, none⟩ = some (.int .i64 t290) ∧ w'.cell? ⟨gb293, 3, none⟩ = some (.int .i64 t291)) (ds := []) #[false, false, false, false, false, false, false] (by kernel_rfl) rfl rfl ⟨(qA BK293.out 0).trans rfl, (qA BK293.out 1).trans rfl, (qA BK293.out 2).trans rfl, (qA BK293.out 3).trans rfl⟩ (fun hHeld => ?_)
                    generalize wr.drew = w109 at HO_294000 HO_294001 BK283 BK293 HI0 HK HB hHeld ⊢
                    refine pure_ (i := 0) (N := some 39) (v := ?_) (a' := ?_) #[true, false, false, false, false, false, false] rfl rfl (by kernel_rfl) (fun _ _ _ h => h) (Or.inl ⟨by rfl, ?_⟩) ?_ ?_
                    rotate_left
                    · intro w'
                      go_simp
                      with_reducible rfl
                    rotate_left
                    · simp only [Act.put, List.setIfInBounds_toArray, List.set_cons_zero, List.set_cons_succ, i64_w, i32_w]
                      rfl
                    refine pure_ (i := 3) (N := some 42) (v := ?_) (a' := ?_) #[true, false, false, true, false, false, false] rfl rfl (by kernel_rfl) (fun _ _ _ h => h) (Or.inl ⟨by rfl, ?_⟩) ?_ ?_
                    rotate_left
                    · intro w'
                      go_simp
                      with_reducible rfl
                    rotate_left
                    · simp only [Act.put, List.setIfInBounds_toArray, List.set_cons_zero, List.set_cons_succ, i64_w, i32_w]
                      rfl
                    refine take_ (i := 1) (N := some 40) (v := ?_) (a' := ?_) #[true, true, false, true, false, false, false] rfl rfl (by kernel_rfl) (fun _ _ _ h => h) (Or.inl ⟨by rfl, ?_⟩) hHeld ?_ ?_
                    rotate_left
                    · rintro w' ⟨s0, s1, s2, s3⟩
                      go_simp
                      with_reducible rfl
                    rotate_left
                    · simp only [Act.put, List.setIfInBounds_toArray, List.set_cons_zero, List.set_cons_succ, i64_w, i32_w]
                      rfl
                    refine pure_ (i := 2) (N := some 41) (v := ?_) (a' := ?_) #[true, true, true, true, false, false, false] rfl rfl (by kernel_rfl) (fun _ _ _ h => h) (Or.inl ⟨by rfl, ?_⟩) ?_ ?_
                    rotate_left
                    · intro w'
                      go_simp
                      with_reducible rfl
                    rotate_left
                    · simp only [Act.put, List.setIfInBounds_toArray, List.set_cons_zero, List.set_cons_succ, i64_w, i32_w]
                      rfl
                    refine one_ (i := 4) (N := some 43) #[true, true, true, true, true, false, false] rfl rfl (by kernel_rfl) (by decide) (fun K hK => ?_)
                    refine goes_ Try.func34 (by kernel_rfl) rfl #[.pointer (some ⟨g, 0, none⟩), .int .i64 2] (by rfl) rfl rfl (by (try simp only [List.map_toArray, List.map_cons, List.map_nil]); first | done | rfl | (simp only [List.length_drop, List.length_take]; rfl)) ?_
                    with_reducible refine (spec_l1Rd_pick.calls k1 g s0_0 x1001_1 2 t309 t310 w0 _ ?side1 ?side2 A97.out).mono ?_
                    (case side1 => repeat (first | (with_reducible first | exact HI0.out | apply IsS83.alloc | apply IsS83.drewN | apply IsS83.drew | apply IsS83.set_1 | refine IsS83.far ?_ NB0_283.out _ | refine IsS83.far ?_ NB0_293.out _) | exact HI0.out))
                    (case side2 => repeat (first | (with_reducible first | exact HB.out | apply qF | apply qC | apply qE | refine qB ?_ (IsS83.ge HI0.out) | refine qB ?_ GE283.out | refine qB ?_ GE293.out) | exact HB.out))
                    rintro e w111 ⟨rfl, hi, hb, hk⟩
                    refine ⟨_, rfl, ?_⟩
                    have n0_ := Aside0.mk (Kd.zU (Kd.Q_keep (IsS83.apartQ (show IsS83 w0 _ g s0_0 x1001_1 from by repeat (first | (with_reducible first | exact HI0.out | apply IsS83.alloc | apply IsS83.drewN | apply IsS83.drew | apply IsS83.set_1 | refine IsS83.far ?_ NB0_283.out _ | refine IsS83.far ?_ NB0_293.out _) | exact HI0.out)) (qw_ HO_294000.out) (by decide)) hk (fun _ h => h.2)) (fun _ h => h.1))
                    have n1_ := Aside0.mk (Kd.qS (Kd.zM (IsS83.apart (show IsS83 w0 _ g s0_0 x1001_1 from by repeat (first | (with_reducible first | exact HI0.out | apply IsS83.alloc | apply IsS83.drewN | apply IsS83.drew | apply IsS83.set_1 | refine IsS83.far ?_ NB0_283.out _ | refine IsS83.far ?_ NB0_293.out _) | exact HI0.out)) (rw_ HO_294001.out) (by decide)) hk (fun _ h => h.2)) (fun _ h => h.1))
                    have n2_ := Aside0.mk (KeepBut.blk hk (g' := gb283) (o := .cells #[.slice none 0 0, .slice none 0 0, .int .i64 0, .int .i64 0] 26 (0, 0)) (bw_ BK283.out) NB283_0.out (by simp))
                    have n3_ := Aside0.mk (KeepBut.blk hk (g' := gb293) (o := .cells #[.slice Ao91 t284.length co91, .slice Ao110 x294001_1.length co110, .int .i64 t290, .int .i64 t291] 26 (0, 0)) (bw_ BK293.out) NB293_0.out (by simp))
                    have n4_ := Aside0.mk (KeepBut.trans (by repeat (first | (with_reducible first | exact HK.out | apply KeepBut.set_ | apply qK | apply qO | apply qL | refine qQ ?_ GW283.out _ | refine qQ ?_ GW293.out _) | exact HK.out)) hk (.inl rfl))
                    have n5_ := Aside0.mk (hb)
                    have n6_ := Aside0.mk (hi)
                    clear HO_294000
                    clear HO_294001
                    clear BK283
                    clear BK293
                    clear HK
                    clear HB
                    clear HI0
                    have HO_294000 := n0_
                    have HO_294001 := n1_
                    have BK283 := n2_
                    have BK293 := n3_
                    have HK := n4_
                    have HB := n5_
                    have HI0 := n6_
                    clear n0_ n1_ n2_ n3_ n4_ n5_ n6_
                    (try clear hb)
                    (try clear hb2)
                    (try clear hk)
                    (try clear hi)
                    refine hK.out _ _ ⟨(qA BK293.out 0).trans rfl, (qA BK293.out 1).trans rfl, (qA BK293.out 2).trans rfl, (qA BK293.out 3).trans rfl⟩ (fun hHeld => ?_)
                    clear hK K
                    refine norm_ (a' := ?_) ?_ ?_
                    rotate_left
                    · show Act.put _ (some 43) _ = _
                      simp only [Act.put, List.setIfInBounds_toArray, List.set_cons_zero, List.set_cons_succ, i64_w, i32_w]
                      rfl
                    refine pure_ (i := 5) (N := some 44) (v := ?_) (a' := ?_) #[true, true, true, true, true, true, false] rfl rfl (by kernel_rfl) (fun _ _ _ h => h) (Or.inl ⟨by rfl, ?_⟩) ?_ ?_
                    rotate_left
                    · intro w'
                      go_simp
                      with_reducible rfl
                    rotate_left
                    · simp only [Act.put, List.setIfInBounds_toArray, List.set_cons_zero, List.set_cons_succ, i64_w, i32_w]
                      rfl
                    refine pure_ (i := 6) (N := some 45) (v := ?_) (a' := ?_) #[true, true, true, true, true, true, true] rfl rfl (by kernel_rfl) (fun _ _ _ h => h) (Or.inl ⟨by rfl, ?_⟩) ?_ ?_
                    rotate_left
                    · intro w'
                      go_simp
                      with_reducible rfl
                    rotate_left
                    · simp only [Act.put, List.setIfInBounds_toArray, List.set_cons_zero, List.set_cons_succ, i64_w, i32_w]
                      rfl
                    refine done_ (by kernel_rfl) ?_
                    have hnb112 := NB293_283.out
                    have hnc112 := NB283_293.out
                    have hnb113 := NB293_0.out
                    have hnc113 := NB0_293.out
                    have hcz114_0 : w111.cell? ⟨gb293, 0, none⟩ = some (.slice Ao91 t284.length co91) := (qA BK293.out 0).trans rfl
                    have hcz114_1 : w111.cell? ⟨gb293, 1, none⟩ = some (.slice Ao110 x294001_1.length co110) := (qA BK293.out 1).trans rfl
                    have hcz114_2 : w111.cell? ⟨gb293, 2, none⟩ = some (.int .i64 t290) := (qA BK293.out 2).trans rfl
                    have hcz114_3 : w111.cell? ⟨gb293, 3, none⟩ = some (.int .i64 t291) := (qA BK293.out 3).trans rfl
                    have hfz114_0 := qD BK293.out 0
                    have hfz114_1 := qD BK293.out 1
                    have hfz114_2 := qD BK293.out 2
                    have hfz114_3 := qD BK293.out 3
                    have hnb115 := NB283_0.out
                    have hnc115 := NB0_283.out
                    have hcz116_0 : w111.cell? ⟨gb283, 0, none⟩ = some (.slice none 0 0) := (qA BK283.out 0).trans rfl
                    have hcz116_1 : w111.cell? ⟨gb283, 1, none⟩ = some (.slice none 0 0) := (qA BK283.out 1).trans rfl
                    have hcz116_2 : w111.cell? ⟨gb283, 2, none⟩ = some (.int .i64 0) := (qA BK283.out 2).trans rfl
                    have hcz116_3 : w111.cell? ⟨gb283, 3, none⟩ = some (.int .i64 0) := (qA BK283.out 3).trans rfl
                    have hfz116_0 := qD BK283.out 0
                    have hfz116_1 := qD BK283.out 1
                    have hfz116_2 := qD BK283.out 2
                    have hfz116_3 := qD BK283.out 3
                    try go_wp2
                    refine bodyPost_ret (results_cell_row rfl _ _ gb283 26 #[.slice Ao91 t284.length co91, .slice Ao110 x294001_1.length co110, .int .i64 t290, .int .i64 t291] (0, 0) _ rfl (by (with_reducible repeat (first | refine qH ?_ _ | refine qI ?_ | refine qG ?_ _)); refine qP (cs := #[.slice Ao91 t284.length co91, .slice Ao110 x294001_1.length co110, .int .i64 t290, .int .i64 0]) ?_ 3 _ rfl; (with_reducible repeat (first | refine qH ?_ _ | refine qI ?_ | refine qG ?_ _)); refine qP (cs := #[.slice Ao91 t284.length co91, .slice Ao110 x294001_1.length co110, .int .i64 0, .int .i64 0]) ?_ 2 _ rfl; (with_reducible repeat (first | refine qH ?_ _ | refine qI ?_ | refine qG ?_ _)); refine qP (cs := #[.slice Ao91 t284.length co91, .slice none 0 0, .int .i64 0, .int .i64 0]) ?_ 1 _ rfl; (with_reducible repeat (first | refine qH ?_ _ | refine qI ?_ | refine qG ?_ _)); refine qP (cs := #[.slice none 0 0, .slice none 0 0, .int .i64 0, .int .i64 0]) ?_ 0 _ rfl; (with_reducible repeat (first | refine qH ?_ _ | refine qI ?_ | refine qG ?_ _)); exact BK283.out) Try.underlying26 rfl (by kernel_rfl)) rfl ?_
                    exact ⟨_, _, by first | rfl | (simp [errW_none, errW_some] <;> rfl) | (simp [*, errW_none, errW_some] <;> rfl), by (with_reducible repeat (first | apply Kd.zW | apply Kd.zX | apply Kd.zS)); exact Kd.zU (Kd.Q_far (p := ⟨gb283, 3, none⟩) (Kd.Q_far (p := ⟨gb283, 2, none⟩) (Kd.Q_far (p := ⟨gb283, 1, none⟩) (Kd.Q_far (p := ⟨gb283, 0, none⟩) (Kd.xA HO_294000.out BK283.out (by decide)) (fun _ hk => hk.2) (.slice Ao91 t284.length co91)) (fun _ hk => hk.2) (.slice Ao110 x294001_1.length co110)) (fun _ hk => hk.2) (.int .i64 t290)) (fun _ hk => hk.2) (.int .i64 t291)) (fun _ hk => trivial), by (with_reducible repeat (first | apply Kd.qX | apply Kd.qV | apply Kd.qW)); exact Kd.qS (Kd.R_far (p := ⟨gb283, 3, none⟩) (Kd.R_far (p := ⟨gb283, 2, none⟩) (Kd.R_far (p := ⟨gb283, 1, none⟩) (Kd.R_far (p := ⟨gb283, 0, none⟩) (Kd.qY HO_294001.out BK283.out (by decide)) (fun _ hk => hk.2) (.slice Ao91 t284.length co91)) (fun _ hk => hk.2) (.slice Ao110 x294001_1.length co110)) (fun _ hk => hk.2) (.int .i64 t290)) (fun _ hk => hk.2) (.int .i64 t291)) (fun _ hk => trivial), by repeat (first | (with_reducible first | exact HI0.out | apply IsS83.alloc | apply IsS83.drewN | apply IsS83.drew | apply IsS83.set_1 | refine IsS83.far ?_ NB0_283.out _ | refine IsS83.far ?_ NB0_293.out _) | exact HI0.out), by repeat (first | (with_reducible first | exact HB.out | apply qF | apply qC | apply qE | refine qB ?_ (IsS83.ge HI0.out) | refine qB ?_ GE283.out | refine qB ?_ GE293.out) | exact HB.out), by repeat (first | (with_reducible first | exact HK.out | apply KeepBut.set_ | apply qK | apply qO | apply qL | refine qQ ?_ GW283.out _ | refine qQ ?_ GW293.out _) | exact HK.out)⟩
            · rw [if_neg c87] at H
              have c87b0 : (t294 == 5) = false := beq_eq_false_iff_ne.mpr c87
              have c87b1 : (t294 != 5) = true := bne_iff_ne.mpr c87
              simp only [Option.some.injEq, Prod.mk.injEq] at H
              obtain ⟨rfl, rfl, rfl, rfl, rfl⟩ := H
              go_enter Try.func33, Try.ntmps33
              go_wp2_with (first | ((with_reducible refine zB (N := 2) rfl ?_); refine qZ ?hg (N := 2) ?hd (cs := #[.slice none 0 0, .slice none 0 0, .int .i64 0, .int .i64 0]) (t := 26) ?hr ?_; (case hd => rfl); (case hg => rfl); (case hr => first | (go_simp; done) | (go_simp; rfl)); intro gb283 hg w117 hbox hb; have n0_ := Aside0.mk (IsS83.below (by repeat (first | (with_reducible first | exact HI0.out | apply IsS83.alloc | apply IsS83.drewN | apply IsS83.drew | apply IsS83.set_1) | exact HI0.out)) hb); have n1_ := Aside0.mk (KeepBut.trans (by repeat (first | (with_reducible first | exact HK.out | apply KeepBut.set_ | apply qK | apply qO | apply qL) | exact HK.out)) (KeepBut.of_below hb g none) (.inl rfl)); have n2_ := Aside0.mk (qN (by repeat (first | (with_reducible first | exact HB.out | apply qF | apply qC | apply qE | refine qB ?_ (IsS83.ge HI0.out)) | exact HB.out)) hb); have n3_ := Aside0.mk (hbox); have n4_ := Aside0.mk ((by rw [hg]; exact (zF (w := w) (g := g) (row := none) (by repeat (first | (with_reducible first | exact HK.out | apply KeepBut.set_ | apply qK | apply qO | apply qL) | exact HK.out))) : w.heap.size ≤ gb283)); have n5_ := Aside0.mk ((Nat.le_trans HW0.out (by rw [hg]; exact (zF (w := w) (g := g) (row := none) (by repeat (first | (with_reducible first | exact HK.out | apply KeepBut.set_ | apply qK | apply qO | apply qL) | exact HK.out))) : w.heap.size ≤ gb283) : w0.heap.size ≤ gb283)); have n6_ := Aside0.mk ((by rw [hg]; exact Nat.ne_of_lt (IsS83.lt (show IsS83 w0 _ g s0_0 s0_1 from by repeat (first | (with_reducible first | exact HI0.out | apply IsS83.alloc | apply IsS83.drewN | apply IsS83.drew | apply IsS83.set_1) | exact HI0.out))) : g ≠ gb283)); have n7_ := Aside0.mk ((by rw [hg]; exact Nat.ne_of_gt (IsS83.lt (show IsS83 w0 _ g s0_0 s0_1 from by repeat (first | (with_reducible first | exact HI0.out | apply IsS83.alloc | apply IsS83.drewN | apply IsS83.drew | apply IsS83.set_1) | exact HI0.out))) : gb283 ≠ g)); clear HI0; clear HK; clear HB; have HI0 := n0_; have HK := n1_; have HB := n2_; have BK283 := n3_; have GW283 := n4_; have GE283 := n5_; have NB0_283 := n6_; have NB283_0 := n7_; clear n0_ n1_ n2_ n3_ n4_ n5_ n6_ n7_; clear hb hbox hg) | ((with_reducible refine qT (f := 65) rfl ?_); refine zL (some 5) rfl rfl Try.func65 (by kernel_rfl) rfl #[.pointer (some ⟨g, 0, none⟩)] rfl (by (try simp only [List.map_toArray, List.map_cons, List.map_nil]); first | done | rfl | (simp only [List.length_drop, List.length_take]; rfl)) ?_; (with_reducible refine (spec_l15Disk.calls k g s0_0 s0_1 t284 t287 t290 t291 t292 w0 _ ?side1 ?side2 A2.out).mono ?_); (case side1 => repeat (first | (with_reducible first | exact HI0.out | apply IsS83.alloc | apply IsS83.drewN | apply IsS83.drew | apply IsS83.set_1 | refine IsS83.far ?_ NB0_283.out _) | exact HI0.out)); (case side2 => repeat (first | (with_reducible first | exact HB.out | apply qF | apply qC | apply qE | refine qB ?_ (IsS83.ge HI0.out) | refine qB ?_ GE283.out) | exact HB.out)); rintro e w118 ⟨v285, v288, rfl, ho0, ho1, hi, hb, hk⟩; refine ⟨_, rfl, ?_⟩; have n0_ := Aside0.mk (KeepBut.blk hk (g' := gb283) (o := .cells #[.slice none 0 0, .slice none 0 0, .int .i64 0, .int .i64 0] 26 (0, 0)) (bw_ BK283.out) NB283_0.out (by simp)); have n1_ := Aside0.mk (Kd.zJ ho0 (zF (w := w) (g := g) (row := none) (by repeat (first | (with_reducible first | exact HK.out | apply KeepBut.set_ | apply qK | apply qO | apply qL | refine qQ ?_ GW283.out _) | exact HK.out)))); have n2_ := Aside0.mk (Kd.zJ ho1 (zF (w := w) (g := g) (row := none) (by repeat (first | (with_reducible first | exact HK.out | apply KeepBut.set_ | apply qK | apply qO | apply qL | refine qQ ?_ GW283.out _) | exact HK.out)))); have n3_ := Aside0.mk (KeepBut.trans (by repeat (first | (with_reducible first | exact HK.out | apply KeepBut.set_ | apply qK | apply qO | apply qL | refine qQ ?_ GW283.out _) | exact HK.out)) hk (.inl rfl)); have n4_ := Aside0.mk (hb); have n5_ := Aside0.mk (hi); clear BK283; clear HK; clear HB; clear HI0; have BK283 := n0_; have HO286 := n1_; have HO289 := n2_; have HK := n3_; have HB := n4_; have HI0 := n5_; clear n0_ n1_ n2_ n3_ n4_ n5_; (try clear hb); (try clear hb2); (try clear hk); (try clear hi); (try clear ho0); (try clear ho1)) | ((with_reducible refine zB (N := 3) rfl ?_); refine qZ ?hg (N := 3) ?hd (cs := #[.slice none 0 0, .slice none 0 0, .int .i64 0, .int .i64 0]) (t := 26) ?hr ?_; (case hd => rfl); (case hg => rfl); (case hr => first | (go_simp; done) | (go_simp; rfl)); intro gb293 hg w119 hbox hb; have n0_ := Aside0.mk (Kd.qU (rw_ HO286.out) hb); have n1_ := Aside0.mk (Kd.qU (rw_ HO289.out) hb); have n2_ := Aside0.mk (IsS83.below (by repeat (first | (with_reducible first | exact HI0.out | apply IsS83.alloc | apply IsS83.drewN | apply IsS83.drew | apply IsS83.set_1 | refine IsS83.far ?_ NB0_283.out _) | exact HI0.out)) hb); have n3_ := Aside0.mk (qJ (g := gb283) (o := .cells #[.slice none 0 0, .slice none 0 0, .int .i64 0, .int .i64 0] 26 (0, 0)) (bw_ BK283.out) hb); have n4_ := Aside0.mk (KeepBut.trans (by repeat (first | (with_reducible first | exact HK.out | apply KeepBut.set_ | apply qK | apply qO | apply qL | refine qQ ?_ GW283.out _) | exact HK.out)) (KeepBut.of_below hb g none) (.inl rfl)); have n5_ := Aside0.mk (qN (by repeat (first | (with_reducible first | exact HB.out | apply qF | apply qC | apply qE | refine qB ?_ (IsS83.ge HI0.out) | refine qB ?_ GE283.out) | exact HB.out)) hb); have n6_ := Aside0.mk (hbox); have n7_ := Aside0.mk ((by rw [hg]; exact (zF (w := w) (g := g) (row := none) (by repeat (first | (with_reducible first | exact HK.out | apply KeepBut.set_ | apply qK | apply qO | apply qL | refine qQ ?_ GW283.out _) | exact HK.out))) : w.heap.size ≤ gb293)); have n8_ := Aside0.mk ((Nat.le_trans HW0.out (by rw [hg]; exact (zF (w := w) (g := g) (row := none) (by repeat (first | (with_reducible first | exact HK.out | apply KeepBut.set_ | apply qK | apply qO | apply qL | refine qQ ?_ GW283.out _) | exact HK.out))) : w.heap.size ≤ gb293) : w0.heap.size ≤ gb293)); have n9_ := Aside0.mk ((by rw [hg]; exact Nat.ne_of_lt (zE (g := gb283) (o := .cells #[.slice none 0 0, .slice none 0 0, .int .i64 0, .int .i64 0] 26 (0, 0)) (bw_ BK283.out)) : gb283 ≠ gb293)); have n10_ := Aside0.mk ((by rw [hg]; exact Nat.ne_of_gt (zE (g := gb283) (o := .cells #[.slice none 0 0, .slice none 0 0, .int .i64 0, .int .i64 0] 26 (0, 0)) (bw_ BK283.out)) : gb293 ≠ gb283)); have n11_ := Aside0.mk ((by rw [hg]; exact Nat.ne_of_lt (IsS83.lt (show IsS83 w0 _ g s0_0 t292 from by repeat (first | (with_reducible first | exact HI0.out | apply IsS83.alloc | apply IsS83.drewN | apply IsS83.drew | apply IsS83.set_1 | refine IsS83.far ?_ NB0_283.out _) | exact HI0.out))) : g ≠ gb293)); have n12_ := Aside0.mk ((by rw [hg]; exact Nat.ne_of_gt (IsS83.lt (show IsS83 w0 _ g s0_0 t292 from by repeat (first | (with_reducible first | exact HI0.out | apply IsS83.alloc | apply IsS83.drewN | apply IsS83.drew | apply IsS83.set_1 | refine IsS83.far ?_ NB0_283.out _) | exact HI0.out))) : gb293 ≠ g)); clear HO286; clear HO289; clear HI0; clear BK283; clear HK; clear HB; have HO286 := n0_; have HO289 := n1_; have HI0 := n2_; have BK283 := n3_; have HK := n4_; have HB := n5_; have BK293 := n6_; have GW293 := n7_; have GE293 := n8_; have NB283_293 := n9_; have NB293_283 := n10_; have NB0_293 := n11_; have NB293_0 := n12_; clear n0_ n1_ n2_ n3_ n4_ n5_ n6_ n7_ n8_ n9_ n10_ n11_ n12_; clear hb hbox hg; obtain ⟨Ao120, co120, eo120⟩ := Kd.zG HO286.out; subst eo120; have hnb121 := NB293_283.out; have hnc121 := NB283_293.out; have hnb122 := NB293_0.out; have hnc122 := NB0_293.out; have hcz123_0 : w119.cell? ⟨gb293, 0, none⟩ = some (.slice none 0 0) := (qA BK293.out 0).trans rfl; have hcz123_1 : w119.cell? ⟨gb293, 1, none⟩ = some (.slice none 0 0) := (qA BK293.out 1).trans rfl; have hcz123_2 : w119.cell? ⟨gb293, 2, none⟩ = some (.int .i64 0) := (qA BK293.out 2).trans rfl; have hcz123_3 : w119.cell? ⟨gb293, 3, none⟩ = some (.int .i64 0) := (qA BK293.out 3).trans rfl; have hfz123_0 := qD BK293.out 0; have hfz123_1 := qD BK293.out 1; have hfz123_2 := qD BK293.out 2; have hfz123_3 := qD BK293.out 3; obtain ⟨Ao124, co124, eo124⟩ := Kd.zG HO289.out; subst eo124) | ((with_reducible refine qT (f := 34) rfl ?_); refine zL (some 7) rfl rfl Try.func34 (by kernel_rfl) rfl #[.pointer (some ⟨g, 0, none⟩), .int .i64 24] rfl (by (try simp only [List.map_toArray, List.map_cons, List.map_nil]); first | done | rfl | (simp only [List.length_drop, List.length_take]; rfl)) ?_; (with_reducible refine (spec_l1Rd_pick.calls k g s0_0 t292 24 t294 t295 w0 _ ?side1 ?side2 A3.out).mono ?_); (case side1 => repeat (first | (with_reducible first | exact HI0.out | apply IsS83.alloc | apply IsS83.drewN | apply IsS83.drew | apply IsS83.set_1 | refine IsS83.far ?_ NB0_283.out _ | refine IsS83.far ?_ NB0_293.out _) | exact HI0.out)); (case side2 => repeat (first | (with_reducible first | exact HB.out | apply qF | apply qC | apply qE | refine qB ?_ (IsS83.ge HI0.out) | refine qB ?_ GE283.out | refine qB ?_ GE293.out) | exact HB.out)); rintro e w125 ⟨rfl, hi, hb, hk⟩; refine ⟨_, rfl, ?_⟩; have n0_ := Aside0.mk (KeepBut.blk hk (g' := gb283) (o := .cells #[.slice none 0 0, .slice none 0 0, .int .i64 0, .int .i64 0] 26 (0, 0)) (by (with_reducible repeat (first | refine qH ?_ _ | refine qI ?_ | refine qG ?_ _)); refine qR ?_ NB283_293.out _; (with_reducible repeat (first | refine qH ?_ _ | refine qI ?_ | refine qG ?_ _)); refine qR ?_ NB283_293.out _; (with_reducible repeat (first | refine qH ?_ _ | refine qI ?_ | refine qG ?_ _)); refine qR ?_ NB283_293.out _; (with_reducible repeat (first | refine qH ?_ _ | refine qI ?_ | refine qG ?_ _)); refine qR ?_ NB283_293.out _; (with_reducible repeat (first | refine qH ?_ _ | refine qI ?_ | refine qG ?_ _)); exact BK283.out) NB283_0.out (by simp)); have n1_ := Aside0.mk (Kd.qS (Kd.zM (IsS83.apart (show IsS83 w0 _ g s0_0 t292 from by repeat (first | (with_reducible first | exact HI0.out | apply IsS83.alloc | apply IsS83.drewN | apply IsS83.drew | apply IsS83.set_1 | refine IsS83.far ?_ NB0_283.out _ | refine IsS83.far ?_ NB0_293.out _) | exact HI0.out)) (by (with_reducible repeat (first | apply Kd.qX | apply Kd.qV | apply Kd.qW)); exact (Kd.qS (Kd.R_far (p := ⟨gb293, 3, none⟩) (Kd.R_far (p := ⟨gb293, 2, none⟩) (Kd.R_far (p := ⟨gb293, 1, none⟩) (Kd.R_far (p := ⟨gb293, 0, none⟩) (Kd.qY HO286.out BK293.out (by decide)) (fun _ hk => hk.2) (.slice Ao120 t284.length co120)) (fun _ hk => hk.2) (.slice Ao124 t287.length co124)) (fun _ hk => hk.2) (.int .i64 t290)) (fun _ hk => hk.2) (.int .i64 t291)) (fun _ h_ => h_.1))) (by decide)) hk (fun _ h => h.2)) (fun _ h => h.1)); have n2_ := Aside0.mk (Kd.qS (Kd.zM (IsS83.apart (show IsS83 w0 _ g s0_0 t292 from by repeat (first | (with_reducible first | exact HI0.out | apply IsS83.alloc | apply IsS83.drewN | apply IsS83.drew | apply IsS83.set_1 | refine IsS83.far ?_ NB0_283.out _ | refine IsS83.far ?_ NB0_293.out _) | exact HI0.out)) (by (with_reducible repeat (first | apply Kd.qX | apply Kd.qV | apply Kd.qW)); exact (Kd.qS (Kd.R_far (p := ⟨gb293, 3, none⟩) (Kd.R_far (p := ⟨gb293, 2, none⟩) (Kd.R_far (p := ⟨gb293, 1, none⟩) (Kd.R_far (p := ⟨gb293, 0, none⟩) (Kd.qY HO289.out BK293.out (by decide)) (fun _ hk => hk.2) (.slice Ao120 t284.length co120)) (fun _ hk => hk.2) (.slice Ao124 t287.length co124)) (fun _ hk => hk.2) (.int .i64 t290)) (fun _ hk => hk.2) (.int .i64 t291)) (fun _ h_ => h_.1))) (by decide)) hk (fun _ h => h.2)) (fun _ h => h.1)); have n3_ := Aside0.mk (KeepBut.blk hk (g' := gb293) (o := .cells #[.slice Ao120 t284.length co120, .slice Ao124 t287.length co124, .int .i64 t290, .int .i64 t291] 26 (0, 0)) (by (with_reducible repeat (first | refine qH ?_ _ | refine qI ?_ | refine qG ?_ _)); refine qP (cs := #[.slice Ao120 t284.length co120, .slice Ao124 t287.length co124, .int .i64 t290, .int .i64 0]) ?_ 3 _ rfl; (with_reducible repeat (first | refine qH ?_ _ | refine qI ?_ | refine qG ?_ _)); refine qP (cs := #[.slice Ao120 t284.length co120, .slice Ao124 t287.length co124, .int .i64 0, .int .i64 0]) ?_ 2 _ rfl; (with_reducible repeat (first | refine qH ?_ _ | refine qI ?_ | refine qG ?_ _)); refine qP (cs := #[.slice Ao120 t284.length co120, .slice none 0 0, .int .i64 0, .int .i64 0]) ?_ 1 _ rfl; (with_reducible repeat (first | refine qH ?_ _ | refine qI ?_ | refine qG ?_ _)); refine qP (cs := #[.slice none 0 0, .slice none 0 0, .int .i64 0, .int .i64 0]) ?_ 0 _ rfl; (with_reducible repeat (first | refine qH ?_ _ | refine qI ?_ | refine qG ?_ _)); exact BK293.out) NB293_0.out (by simp)); have n4_ := Aside0.mk (KeepBut.trans (by repeat (first | (with_reducible first | exact HK.out | apply KeepBut.set_ | apply qK | apply qO | apply qL | refine qQ ?_ GW283.out _ | refine qQ ?_ GW293.out _) | exact HK.out)) hk (.inl rfl)); have n5_ := Aside0.mk (hb); have n6_ := Aside0.mk (hi); clear BK283; clear HO286; clear HO289; clear BK293; clear HK; clear HB; clear HI0; have BK283 := n0_; have HO286 := n1_; have HO289 := n2_; have BK293 := n3_; have HK := n4_; have HB := n5_; have HI0 := n6_; clear n0_ n1_ n2_ n3_ n4_ n5_ n6_; (try clear hb); (try clear hb2); (try clear hk); (try clear hi); have hcz126_0 : w125.cell? ⟨gb293, 0, none⟩ = some (.slice Ao120 t284.length co120) := (qA BK293.out 0).trans rfl; have hcz126_1 : w125.cell? ⟨gb293, 1, none⟩ = some (.slice Ao124 t287.length co124) := (qA BK293.out 1).trans rfl; have hcz126_2 : w125.cell? ⟨gb293, 2, none⟩ = some (.int .i64 t290) := (qA BK293.out 2).trans rfl; have hcz126_3 : w125.cell? ⟨gb293, 3, none⟩ = some (.int .i64 t291) := (qA BK293.out 3).trans rfl; have hfz126_0 := qD BK293.out 0; have hfz126_1 := qD BK293.out 1; have hfz126_2 := qD BK293.out 2; have hfz126_3 := qD BK293.out 3; have hnb127 := NB283_0.out; have hnc127 := NB0_283.out; have hcz128_0 : w125.cell? ⟨gb283, 0, none⟩ = some (.slice none 0 0) := (qA BK283.out 0).trans rfl; have hcz128_1 : w125.cell? ⟨gb283, 1, none⟩ = some (.slice none 0 0) := (qA BK283.out 1).trans rfl; have hcz128_2 : w125.cell? ⟨gb283, 2, none⟩ = some (.int .i64 0) := (qA BK283.out 2).trans rfl; have hcz128_3 : w125.cell? ⟨gb283, 3, none⟩ = some (.int .i64 0) := (qA BK283.out 3).trans rfl; have hfz128_0 := qD BK283.out 0; have hfz128_1 := qD BK283.out 1; have hfz128_2 := qD BK283.out 2; have hfz128_3 := qD BK283.out 3))
              refine bodyPost_ret (results_cell_row rfl _ _ gb283 26 #[.slice Ao120 t284.length co120, .slice Ao124 t287.length co124, .int .i64 t290, .int .i64 t291] (0, 0) _ rfl (by (with_reducible repeat (first | refine qH ?_ _ | refine qI ?_ | refine qG ?_ _)); refine qP (cs := #[.slice Ao120 t284.length co120, .slice Ao124 t287.length co124, .int .i64 t290, .int .i64 0]) ?_ 3 _ rfl; (with_reducible repeat (first | refine qH ?_ _ | refine qI ?_ | refine qG ?_ _)); refine qP (cs := #[.slice Ao120 t284.length co120, .slice Ao124 t287.length co124, .int .i64 0, .int .i64 0]) ?_ 2 _ rfl; (with_reducible repeat (first | refine qH ?_ _ | refine qI ?_ | refine qG ?_ _)); refine qP (cs := #[.slice Ao120 t284.length co120, .slice none 0 0, .int .i64 0, .int .i64 0]) ?_ 1 _ rfl; (with_reducible repeat (first | refine qH ?_ _ | refine qI ?_ | refine qG ?_ _)); refine qP (cs := #[.slice none 0 0, .slice none 0 0, .int .i64 0, .int .i64 0]) ?_ 0 _ rfl; (with_reducible repeat (first | refine qH ?_ _ | refine qI ?_ | refine qG ?_ _)); exact BK283.out) Try.underlying26 rfl (by kernel_rfl)) rfl ?_
              exact ⟨_, _, by first | rfl | (simp [errW_none, errW_some] <;> rfl) | (simp [*, errW_none, errW_some] <;> rfl), Kd.Q_of_R (by (with_reducible repeat (first | apply Kd.qX | apply Kd.qV | apply Kd.qW)); exact Kd.qS (Kd.R_far (p := ⟨gb283, 3, none⟩) (Kd.R_far (p := ⟨gb283, 2, none⟩) (Kd.R_far (p := ⟨gb283, 1, none⟩) (Kd.R_far (p := ⟨gb283, 0, none⟩) (Kd.qY HO286.out BK283.out (by decide)) (fun _ hk => hk.2) (.slice Ao120 t284.length co120)) (fun _ hk => hk.2) (.slice Ao124 t287.length co124)) (fun _ hk => hk.2) (.int .i64 t290)) (fun _ hk => hk.2) (.int .i64 t291)) (fun _ hk => trivial)), by (with_reducible repeat (first | apply Kd.qX | apply Kd.qV | apply Kd.qW)); exact Kd.qS (Kd.R_far (p := ⟨gb283, 3, none⟩) (Kd.R_far (p := ⟨gb283, 2, none⟩) (Kd.R_far (p := ⟨gb283, 1, none⟩) (Kd.R_far (p := ⟨gb283, 0, none⟩) (Kd.qY HO289.out BK283.out (by decide)) (fun _ hk => hk.2) (.slice Ao120 t284.length co120)) (fun _ hk => hk.2) (.slice Ao124 t287.length co124)) (fun _ hk => hk.2) (.int .i64 t290)) (fun _ hk => hk.2) (.int .i64 t291)) (fun _ hk => trivial), by repeat (first | (with_reducible first | exact HI0.out | apply IsS83.alloc | apply IsS83.drewN | apply IsS83.drew | apply IsS83.set_1 | refine IsS83.far ?_ NB0_283.out _ | refine IsS83.far ?_ NB0_293.out _) | exact HI0.out), by repeat (first | (with_reducible first | exact HB.out | apply qF | apply qC | apply qE | refine qB ?_ (IsS83.ge HI0.out) | refine qB ?_ GE283.out | refine qB ?_ GE293.out) | exact HB.out), by repeat (first | (with_reducible first | exact HK.out | apply KeepBut.set_ | apply qK | apply qO | apply qL | refine qQ ?_ GW283.out _ | refine qQ ?_ GW293.out _) | exact HK.out)⟩

end Go.Proofs.Ytepihebkdnmppaa.Ak
