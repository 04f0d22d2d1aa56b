/- Walks of the seat's functions, written by a program of this session (xprint.py) with the kit's printer: each call comes to just what its Lean function says. -/
import Derived.Test.YtepihebkdnmppaaxAkAk0
import Derived.Test.YtepihebkdnmppaaxAkAk5
import Derived.Test.YtepihebkdnmppaaxAkAk6
namespace Go.Proofs.Ytepihebkdnmppaa.Ak
open Go.RowKit Go.Proofs.YtepihebkdnmppaaV.PrintWords Go.Proofs.YtepihebkdnmppaaV.PrintLast Go.Proofs.YtepihebkdnmppaaV.PrintMore
attribute [local go_sem] max2_int min2_int max_two min_two xD xE max_four min_four   -- for this text's walks alone
attribute [local go_sem high] World.zQ
set_option linter.unusedVariables false
set_option linter.unusedSimpArgs false

/-! ### spec_l15Disk: function 65 -/
mutual
def spec_l15Disk.l0 : Nat → Int → List Int → Int → List ByteArray → List (S70) → Int → Int → Option (List ByteArray × (List (S70)) × Int × Int × Int)
  | 0, _, _, _, _, _, _, _ => none
  | k + 1, x4, x1000, x1001, x223000, x223001, x223002, x223003 => if x4 > 0 then ((spec_l1Rd_pick.f k x1000 x1001 42).bind fun bt225 => ((spec_l1Rd_one.f k x1000 bt225.2 (([0, 1, 2, 3, 21, 22, 23, 41, bt225.1] : List Int))).bind fun bt230 => ((spec_l15PageText.f k x1000 bt230.2).bind fun bt232 => ((spec_l7Write.f k x223000 x223001 x223002 x223003 bt230.1 bt232.1).bind fun bt234 => (spec_l15Disk.l0 k (wrap64 (x4 - 1)) x1000 bt232.2 bt234.1 bt234.2.1 bt234.2.2.1 bt234.2.2.2.1))))) else ((spec_l1Rd_pick.f k x1000 x1001 2).bind fun bt243 => (if bt243.1 = 0 then ((spec_l7Sync.f k x223000 x223001 x223002 x223003).bind fun bt245 => (spec_l15Disk.j1 k x1000 bt243.2 bt245.1 bt245.2.1 bt245.2.2.1 bt245.2.2.2)) else (spec_l15Disk.j1 k x1000 bt243.2 x223000 x223001 x223002 x223003)))
def spec_l15Disk.j1 : Nat → List Int → Int → List ByteArray → List (S70) → Int → Int → Option (List ByteArray × (List (S70)) × Int × Int × Int)
  | 0, _, _, _, _, _, _ => none
  | k + 1, x1000, x1001, x223000, x223001, x223002, x223003 => (spec_l1Rd_pick.f k x1000 x1001 6).bind fun bt253 => (spec_l15Disk.l1 k bt253.1 x1000 bt253.2 x223000 x223001 x223002 x223003)
def spec_l15Disk.l1 : Nat → Int → List Int → Int → List ByteArray → List (S70) → Int → Int → Option (List ByteArray × (List (S70)) × Int × Int × Int)
  | 0, _, _, _, _, _, _, _ => none
  | k + 1, x5, x1000, x1001, x223000, x223001, x223002, x223003 => if x5 > 0 then ((spec_l1Rd_pick.f k x1000 x1001 42).bind fun bt265 => ((spec_l1Rd_one.f k x1000 bt265.2 (([0, 1, 2, 22, bt265.1] : List Int))).bind fun bt270 => ((spec_l15PageText.f k x1000 bt270.2).bind fun bt272 => ((spec_l7Write.f k x223000 x223001 x223002 x223003 bt270.1 bt272.1).bind fun bt274 => (spec_l15Disk.l1 k (wrap64 (x5 - 1)) x1000 bt272.2 bt274.1 bt274.2.1 bt274.2.2.1 bt274.2.2.2.1))))) else ((spec_l1Rd_one.f k x1000 x1001 (([(-1), (-1), (-1), 0, 1, 3] : List Int))).bind fun bt258 => ((spec_l1Rd_one.f k x1000 bt258.2 (([(-1), (-1), (-1), 0, 1, 2] : List Int))).bind fun bt263 => (some (x223000, x223001, bt258.1, bt263.1, bt263.2))))
end
def spec_l15Disk.f (k : Nat) (s0_0 : List Int) (s0_1 : Int) : Option (List ByteArray × (List (S70)) × Int × Int × Int) := (spec_DiskNew.f).bind fun bt214 => ((spec_l1Rd_pick.f k s0_0 s0_1 6).bind fun bt223 => (spec_l15Disk.l0 k bt223.1 s0_0 bt223.2 bt214.1 bt214.2.1 bt214.2.2.1 bt214.2.2.2))
theorem spec_l15Disk.mono_l : ∀ k, (∀ y0 y1 y2 y3 y4 y5 y6, LeO (spec_l15Disk.l0 k y0 y1 y2 y3 y4 y5 y6) (spec_l15Disk.l0 (k + 1) y0 y1 y2 y3 y4 y5 y6)) ∧ (∀ y0 y1 y2 y3 y4 y5, LeO (spec_l15Disk.j1 k y0 y1 y2 y3 y4 y5) (spec_l15Disk.j1 (k + 1) y0 y1 y2 y3 y4 y5)) ∧ (∀ y0 y1 y2 y3 y4 y5 y6, LeO (spec_l15Disk.l1 k y0 y1 y2 y3 y4 y5 y6) (spec_l15Disk.l1 (k + 1) y0 y1 y2 y3 y4 y5 y6))
  | 0 => ⟨fun _ _ _ _ _ _ _ r h => by simp [spec_l15Disk.l0] at h, fun _ _ _ _ _ _ r h => by simp [spec_l15Disk.j1] at h, fun _ _ _ _ _ _ _ r h => by simp [spec_l15Disk.l1] at h⟩
  | k + 1 => by
    obtain ⟨ih0, ih1, ih2⟩ := spec_l15Disk.mono_l k
    refine ⟨?_, ?_, ?_⟩
    · intro y0 y1 y2 y3 y4 y5 y6
      unfold spec_l15Disk.l0
      repeat' first
      | (with_reducible exact ih0 _ _ _ _ _ _ _)
      | (with_reducible exact ih1 _ _ _ _ _ _)
      | (with_reducible exact ih2 _ _ _ _ _ _ _)
      | (with_reducible exact spec_l15PageText.mono _ _ _)
      | (with_reducible exact spec_l1Rd_one.mono _ _ _ _)
      | (with_reducible exact spec_l1Rd_pick.mono _ _ _ _)
      | (with_reducible exact spec_l7Sync.mono _ _ _ _ _)
      | (with_reducible exact spec_l7Write.mono _ _ _ _ _ _ _)
      | (with_reducible exact LeO.refl _)
      | (with_reducible exact LeO.none _)
      | (with_reducible refine LeO.ite ?_ ?_)
      | (with_reducible refine LeO.bind ?_ (fun _ => ?_))
      | exact ih0 _ _ _ _ _ _ _
      | exact ih1 _ _ _ _ _ _
      | exact ih2 _ _ _ _ _ _ _
      | exact spec_l15PageText.mono _ _ _
      | exact spec_l1Rd_one.mono _ _ _ _
      | exact spec_l1Rd_pick.mono _ _ _ _
      | exact spec_l7Sync.mono _ _ _ _ _
      | exact spec_l7Write.mono _ _ _ _ _ _ _
      | exact LeO.none _
      | refine LeO.ite ?_ ?_
      | refine LeO.bind ?_ (fun _ => ?_)
    · intro y0 y1 y2 y3 y4 y5
      unfold spec_l15Disk.j1
      repeat' first
      | (with_reducible exact ih0 _ _ _ _ _ _ _)
      | (with_reducible exact ih1 _ _ _ _ _ _)
      | (with_reducible exact ih2 _ _ _ _ _ _ _)
      | (with_reducible exact spec_l15PageText.mono _ _ _)
      | (with_reducible exact spec_l1Rd_one.mono _ _ _ _)
      | (with_reducible exact spec_l1Rd_pick.mono _ _ _ _)
      | (with_reducible exact spec_l7Sync.mono _ _ _ _ _)
      | (with_reducible exact spec_l7Write.mono _ _ _ _ _ _ _)
      | (with_reducible exact LeO.refl _)
      | (with_reducible exact LeO.none _)
      | (with_reducible refine LeO.ite ?_ ?_)
      | (with_reducible refine LeO.bind ?_ (fun _ => ?_))
      | exact ih0 _ _ _ _ _ _ _
      | exact ih1 _ _ _ _ _ _
      | exact ih2 _ _ _ _ _ _ _
      | exact spec_l15PageText.mono _ _ _
      | exact spec_l1Rd_one.mono _ _ _ _
      | exact spec_l1Rd_pick.mono _ _ _ _
      | exact spec_l7Sync.mono _ _ _ _ _
      | exact spec_l7Write.mono _ _ _ _ _ _ _
      | exact LeO.none _
      | refine LeO.ite ?_ ?_
      | refine LeO.bind ?_ (fun _ => ?_)
    · intro y0 y1 y2 y3 y4 y5 y6
      unfold spec_l15Disk.l1
      repeat' first
      | (with_reducible exact ih0 _ _ _ _ _ _ _)
      | (with_reducible exact ih1 _ _ _ _ _ _)
      | (with_reducible exact ih2 _ _ _ _ _ _ _)
      | (with_reducible exact spec_l15PageText.mono _ _ _)
      | (with_reducible exact spec_l1Rd_one.mono _ _ _ _)
      | (with_reducible exact spec_l1Rd_pick.mono _ _ _ _)
      | (with_reducible exact spec_l7Sync.mono _ _ _ _ _)
      | (with_reducible exact spec_l7Write.mono _ _ _ _ _ _ _)
      | (with_reducible exact LeO.refl _)
      | (with_reducible exact LeO.none _)
      | (with_reducible refine LeO.ite ?_ ?_)
      | (with_reducible refine LeO.bind ?_ (fun _ => ?_))
      | exact ih0 _ _ _ _ _ _ _
      | exact ih1 _ _ _ _ _ _
      | exact ih2 _ _ _ _ _ _ _
      | exact spec_l15PageText.mono _ _ _
      | exact spec_l1Rd_one.mono _ _ _ _
      | exact spec_l1Rd_pick.mono _ _ _ _
      | exact spec_l7Sync.mono _ _ _ _ _
      | exact spec_l7Write.mono _ _ _ _ _ _ _
      | exact LeO.none _
      | refine LeO.ite ?_ ?_
      | refine LeO.bind ?_ (fun _ => ?_)
theorem spec_l15Disk.mono : ∀ a0 a1 k, LeO (spec_l15Disk.f k a0 a1) (spec_l15Disk.f (k + 1) a0 a1) := by
  intro a0 a1 k
  obtain ⟨ih0, ih1, ih2⟩ := spec_l15Disk.mono_l k
  unfold spec_l15Disk.f
  repeat' first
      | (with_reducible exact ih0 _ _ _ _ _ _ _)
      | (with_reducible exact ih1 _ _ _ _ _ _)
      | (with_reducible exact ih2 _ _ _ _ _ _ _)
      | (with_reducible exact spec_l15PageText.mono _ _ _)
      | (with_reducible exact spec_l1Rd_one.mono _ _ _ _)
      | (with_reducible exact spec_l1Rd_pick.mono _ _ _ _)
      | (with_reducible exact spec_l7Sync.mono _ _ _ _ _)
      | (with_reducible exact spec_l7Write.mono _ _ _ _ _ _ _)
      | (with_reducible exact LeO.refl _)
      | (with_reducible exact LeO.none _)
      | (with_reducible refine LeO.ite ?_ ?_)
      | (with_reducible refine LeO.bind ?_ (fun _ => ?_))
      | exact ih0 _ _ _ _ _ _ _
      | exact ih1 _ _ _ _ _ _
      | exact ih2 _ _ _ _ _ _ _
      | exact spec_l15PageText.mono _ _ _
      | exact spec_l1Rd_one.mono _ _ _ _
      | exact spec_l1Rd_pick.mono _ _ _ _
      | exact spec_l7Sync.mono _ _ _ _ _
      | exact spec_l7Write.mono _ _ _ _ _ _ _
      | exact LeO.none _
      | refine LeO.ite ?_ ?_
      | refine LeO.bind ?_ (fun _ => ?_)
def spec_l15Disk.T5 : Bool × List (List Nat × List Nat) := (true, [([], []), ([], []), ([], []), ([2], [2]), ([3], [3]), ([1, 4, 3], [1, 4]), ([], []), ([6, 5], [6]), ([0, 5, 7, 7], [0, 5, 7]), ([8], [8]), ([9], [9]), ([9], [9]), ([10, 8, 0, 1, 2, 3, 4, 5, 6, 7, 8, 9, 10], [10])])
def spec_l15Disk.B5 : List Nat := [0, 0, 0, 4, 12, 30, 0, 126, 255, 511, 1023, 1023, 2047]
theorem spec_l15Disk.tab5 : rtab .any (opsOf Try.f65 5) = spec_l15Disk.T5 := by kernel_rfl
theorem spec_l15Disk.bits5 : waitsOk spec_l15Disk.T5.2 spec_l15Disk.B5 = true := by kernel_rfl
def spec_l15Disk.T11 : Bool × List (List Nat × List Nat) := (true, [([], []), ([], []), ([], []), ([2], [2]), ([3], [3]), ([1, 4, 3], [1, 4]), ([], []), ([6, 5], [6]), ([0, 5, 7, 7], [0, 5, 7]), ([8], [8]), ([9], [9]), ([9], [9]), ([10, 8, 0, 1, 2, 3, 4, 5, 6, 7, 8, 9, 10], [10])])
def spec_l15Disk.B11 : List Nat := [0, 0, 0, 4, 12, 30, 0, 126, 255, 511, 1023, 1023, 2047]
theorem spec_l15Disk.tab11 : rtab .any (opsOf Try.f65 11) = spec_l15Disk.T11 := by kernel_rfl
theorem spec_l15Disk.bits11 : waitsOk spec_l15Disk.T11.2 spec_l15Disk.B11 = true := by kernel_rfl
set_option maxHeartbeats 8000000 in
set_option maxRecDepth 100000 in
theorem spec_l15Disk.calls (k : Nat) (g : Nat) (s0_0 : List Int) (s0_1 : Int) (r1 : List ByteArray) (r2 : List (S70)) (r3 : Int) (r4 : Int) (r5 : Int) (w0 w : World) (hI : IsS83 w0 w g s0_0 s0_1) (hB : Below w0.heap.size w0 w) (h : spec_l15Disk.f k s0_0 s0_1 = some (r1, r2, r3, r4, r5)) :
    Calls Try.prog 65 #[.pointer (some ⟨g, 0, none⟩)] w fun e w' => ∃ v0_ v1_ : Value, e = .returned (.agg #[v0_, v1_, .int .i64 r3, .int .i64 r4]) ∧ Kd.R Kd.string 9 w' w.heap.size (fun _ => True) v0_ r1 ∧ Kd.R k70 70 w' w.heap.size (fun _ => True) v1_ r2 ∧ IsS83 w0 w' g s0_0 r5 ∧ Below w0.heap.size w0 w' ∧ KeepBut w w' g none := by
  have hu26 := Try.underlying26
  have HI0 := Aside0.mk hI
  have HK := Aside0.mk (KeepBut.refl w g none)
  have HL := Aside0.mk hB.size
  clear hI
  have HW0 := Aside0.mk hB.size
  have HB := Aside0.mk hB
  clear hB
  have H : ((spec_DiskNew.f).bind fun bt214 => ((spec_l1Rd_pick.f k s0_0 s0_1 6).bind fun bt223 => (spec_l15Disk.l0 k bt223.1 s0_0 bt223.2 bt214.1 bt214.2.1 bt214.2.2.1 bt214.2.2.2))) = some (r1, r2, r3, r4, r5) := h
  clear h
  replace H := Option.bind_eq_some_iff.mp H
  obtain ⟨⟨t214, t217, t220, t221⟩, A20, H⟩ := H
  replace H : ((spec_l1Rd_pick.f k s0_0 s0_1 6).bind fun bt223 => (spec_l15Disk.l0 k bt223.1 s0_0 bt223.2 t214 t217 t220 t221)) = some (r1, r2, r3, r4, r5) := H
  have A2 := Aside0.mk A20
  clear A20
  replace H := Option.bind_eq_some_iff.mp H
  obtain ⟨⟨t223, t224⟩, A30, H⟩ := H
  replace H : (spec_l15Disk.l0 k t223 s0_0 t224 t214 t217 t220 t221) = some (r1, r2, r3, r4, r5) := H
  have A3 := Aside0.mk A30
  clear A30
  have H' := Aside0.mk H
  clear H
  go_enter Try.func65, Try.ntmps65
  go_wp2_with (first | ((with_reducible refine zB (N := 2) rfl ?_); refine qZ ?hg (N := 2) ?hd (cs := #[.slice none 0 0, .slice none 0 0, .int .i64 0, .int .i64 0]) (t := 26) ?hr ?_; (case hd => rfl); (case hg => rfl); (case hr => first | (go_simp; done) | (go_simp; rfl)); intro gb213 hg w4 hbox hb; have n0_ := Aside0.mk (IsS83.below (by repeat (first | (with_reducible first | exact HI0.out | apply IsS83.alloc | apply IsS83.drewN | apply IsS83.drew | apply IsS83.set_1) | exact HI0.out)) hb); have n1_ := Aside0.mk (KeepBut.trans (by repeat (first | (with_reducible first | exact HK.out | apply KeepBut.set_ | apply qK | apply qO | apply qL) | exact HK.out)) (KeepBut.of_below hb g none) (.inl rfl)); have n2_ := Aside0.mk (qN (by repeat (first | (with_reducible first | exact HB.out | apply qF | apply qC | apply qE | refine qB ?_ (IsS83.ge HI0.out)) | exact HB.out)) hb); have n3_ := Aside0.mk (hbox); have n4_ := Aside0.mk ((by rw [hg]; exact (zF (w := w) (g := g) (row := none) (by repeat (first | (with_reducible first | exact HK.out | apply KeepBut.set_ | apply qK | apply qO | apply qL) | exact HK.out))) : w.heap.size ≤ gb213)); have n5_ := Aside0.mk ((Nat.le_trans HW0.out (by rw [hg]; exact (zF (w := w) (g := g) (row := none) (by repeat (first | (with_reducible first | exact HK.out | apply KeepBut.set_ | apply qK | apply qO | apply qL) | exact HK.out))) : w.heap.size ≤ gb213) : w0.heap.size ≤ gb213)); have n6_ := Aside0.mk ((by rw [hg]; exact Nat.ne_of_lt (IsS83.lt (show IsS83 w0 _ g s0_0 s0_1 from by repeat (first | (with_reducible first | exact HI0.out | apply IsS83.alloc | apply IsS83.drewN | apply IsS83.drew | apply IsS83.set_1) | exact HI0.out))) : g ≠ gb213)); have n7_ := Aside0.mk ((by rw [hg]; exact Nat.ne_of_gt (IsS83.lt (show IsS83 w0 _ g s0_0 s0_1 from by repeat (first | (with_reducible first | exact HI0.out | apply IsS83.alloc | apply IsS83.drewN | apply IsS83.drew | apply IsS83.set_1) | exact HI0.out))) : gb213 ≠ g)); clear HI0; clear HK; clear HB; have HI0 := n0_; have HK := n1_; have HB := n2_; have BK213 := n3_; have GW213 := n4_; have GE213 := n5_; have NB0_213 := n6_; have NB213_0 := n7_; clear n0_ n1_ n2_ n3_ n4_ n5_ n6_ n7_; clear hb hbox hg) | ((with_reducible refine qT (f := 80) rfl ?_); refine zL (some 6) rfl rfl Try.func80 (by kernel_rfl) rfl #[] rfl (by (try simp only [List.map_toArray, List.map_cons, List.map_nil]); first | done | rfl | (simp only [List.length_drop, List.length_take]; rfl)) ?_; (with_reducible refine (spec_DiskNew.calls  t214 t217 t220 t221 _ A2.out).mono ?_); rintro e w5 ⟨v215, v218, rfl, ho0, ho1, hb⟩; refine ⟨_, rfl, ?_⟩; have n0_ := Aside0.mk (Kd.zJ ho0 (zF (w := w) (g := g) (row := none) (by repeat (first | (with_reducible first | exact HK.out | apply KeepBut.set_ | apply qK | apply qO | apply qL | refine qQ ?_ GW213.out _) | exact HK.out)))); have n1_ := Aside0.mk (Kd.zJ ho1 (zF (w := w) (g := g) (row := none) (by repeat (first | (with_reducible first | exact HK.out | apply KeepBut.set_ | apply qK | apply qO | apply qL | refine qQ ?_ GW213.out _) | exact HK.out)))); have n2_ := Aside0.mk (IsS83.below (by repeat (first | (with_reducible first | exact HI0.out | apply IsS83.alloc | apply IsS83.drewN | apply IsS83.drew | apply IsS83.set_1 | refine IsS83.far ?_ NB0_213.out _) | exact HI0.out)) hb); have n3_ := Aside0.mk (qJ (g := gb213) (o := .cells #[.slice none 0 0, .slice none 0 0, .int .i64 0, .int .i64 0] 26 (0, 0)) (bw_ BK213.out) hb); have n4_ := Aside0.mk (KeepBut.trans (by repeat (first | (with_reducible first | exact HK.out | apply KeepBut.set_ | apply qK | apply qO | apply qL | refine qQ ?_ GW213.out _) | exact HK.out)) (KeepBut.of_below hb g none) (.inl rfl)); have n5_ := Aside0.mk (qN (by repeat (first | (with_reducible first | exact HB.out | apply qF | apply qC | apply qE | refine qB ?_ (IsS83.ge HI0.out) | refine qB ?_ GE213.out) | exact HB.out)) hb); clear HI0; clear BK213; clear HK; clear HB; have HO216 := n0_; have HO219 := n1_; have HI0 := n2_; have BK213 := n3_; have HK := n4_; have HB := n5_; clear n0_ n1_ n2_ n3_ n4_ n5_; (try clear hb); (try clear hb2); (try clear hk); (try clear hi); (try clear ho0); (try clear ho1)) | ((with_reducible refine zB (N := 3) rfl ?_); refine qZ ?hg (N := 3) ?hd (cs := #[.slice none 0 0, .slice none 0 0, .int .i64 0, .int .i64 0]) (t := 26) ?hr ?_; (case hd => rfl); (case hg => rfl); (case hr => first | (go_simp; done) | (go_simp; rfl)); intro gb222 hg w6 hbox hb; have n0_ := Aside0.mk (Kd.qU (rw_ HO216.out) hb); have n1_ := Aside0.mk (Kd.qU (rw_ HO219.out) hb); have n2_ := Aside0.mk (IsS83.below (by repeat (first | (with_reducible first | exact HI0.out | apply IsS83.alloc | apply IsS83.drewN | apply IsS83.drew | apply IsS83.set_1 | refine IsS83.far ?_ NB0_213.out _) | exact HI0.out)) hb); have n3_ := Aside0.mk (qJ (g := gb213) (o := .cells #[.slice none 0 0, .slice none 0 0, .int .i64 0, .int .i64 0] 26 (0, 0)) (bw_ BK213.out) hb); have n4_ := Aside0.mk (KeepBut.trans (by repeat (first | (with_reducible first | exact HK.out | apply KeepBut.set_ | apply qK | apply qO | apply qL | refine qQ ?_ GW213.out _) | exact HK.out)) (KeepBut.of_below hb g none) (.inl rfl)); have n5_ := Aside0.mk (qN (by repeat (first | (with_reducible first | exact HB.out | apply qF | apply qC | apply qE | refine qB ?_ (IsS83.ge HI0.out) | refine qB ?_ GE213.out) | exact HB.out)) hb); have n6_ := Aside0.mk (hbox); have n7_ := Aside0.mk ((by rw [hg]; exact (zF (w := w) (g := g) (row := none) (by repeat (first | (with_reducible first | exact HK.out | apply KeepBut.set_ | apply qK | apply qO | apply qL | refine qQ ?_ GW213.out _) | exact HK.out))) : w.heap.size ≤ gb222)); have n8_ := Aside0.mk ((Nat.le_trans HW0.out (by rw [hg]; exact (zF (w := w) (g := g) (row := none) (by repeat (first | (with_reducible first | exact HK.out | apply KeepBut.set_ | apply qK | apply qO | apply qL | refine qQ ?_ GW213.out _) | exact HK.out))) : w.heap.size ≤ gb222) : w0.heap.size ≤ gb222)); have n9_ := Aside0.mk ((by rw [hg]; exact Nat.ne_of_lt (zE (g := gb213) (o := .cells #[.slice none 0 0, .slice none 0 0, .int .i64 0, .int .i64 0] 26 (0, 0)) (bw_ BK213.out)) : gb213 ≠ gb222)); have n10_ := Aside0.mk ((by rw [hg]; exact Nat.ne_of_gt (zE (g := gb213) (o := .cells #[.slice none 0 0, .slice none 0 0, .int .i64 0, .int .i64 0] 26 (0, 0)) (bw_ BK213.out)) : gb222 ≠ gb213)); have n11_ := Aside0.mk ((by rw [hg]; exact Nat.ne_of_lt (IsS83.lt (show IsS83 w0 _ g s0_0 s0_1 from by repeat (first | (with_reducible first | exact HI0.out | apply IsS83.alloc | apply IsS83.drewN | apply IsS83.drew | apply IsS83.set_1 | refine IsS83.far ?_ NB0_213.out _) | exact HI0.out))) : g ≠ gb222)); have n12_ := Aside0.mk ((by rw [hg]; exact Nat.ne_of_gt (IsS83.lt (show IsS83 w0 _ g s0_0 s0_1 from by repeat (first | (with_reducible first | exact HI0.out | apply IsS83.alloc | apply IsS83.drewN | apply IsS83.drew | apply IsS83.set_1 | refine IsS83.far ?_ NB0_213.out _) | exact HI0.out))) : gb222 ≠ g)); clear HO216; clear HO219; clear HI0; clear BK213; clear HK; clear HB; have HO216 := n0_; have HO219 := n1_; have HI0 := n2_; have BK213 := n3_; have HK := n4_; have HB := n5_; have BK222 := n6_; have GW222 := n7_; have GE222 := n8_; have NB213_222 := n9_; have NB222_213 := n10_; have NB0_222 := n11_; have NB222_0 := n12_; clear n0_ n1_ n2_ n3_ n4_ n5_ n6_ n7_ n8_ n9_ n10_ n11_ n12_; clear hb hbox hg; obtain ⟨Ao7, co7, eo7⟩ := Kd.zG HO216.out; subst eo7; have hnb8 := NB222_213.out; have hnc8 := NB213_222.out; have hnb9 := NB222_0.out; have hnc9 := NB0_222.out; have hcz10_0 : w6.cell? ⟨gb222, 0, none⟩ = some (.slice none 0 0) := (qA BK222.out 0).trans rfl; have hcz10_1 : w6.cell? ⟨gb222, 1, none⟩ = some (.slice none 0 0) := (qA BK222.out 1).trans rfl; have hcz10_2 : w6.cell? ⟨gb222, 2, none⟩ = some (.int .i64 0) := (qA BK222.out 2).trans rfl; have hcz10_3 : w6.cell? ⟨gb222, 3, none⟩ = some (.int .i64 0) := (qA BK222.out 3).trans rfl; have hfz10_0 := qD BK222.out 0; have hfz10_1 := qD BK222.out 1; have hfz10_2 := qD BK222.out 2; have hfz10_3 := qD BK222.out 3; obtain ⟨Ao11, co11, eo11⟩ := Kd.zG HO219.out; subst eo11) | ((with_reducible refine qT (f := 34) rfl ?_); refine zL (some 8) rfl rfl Try.func34 (by kernel_rfl) rfl #[.pointer (some ⟨g, 0, none⟩), .int .i64 6] rfl (by (try simp only [List.map_toArray, List.map_cons, List.map_nil]); first | done | rfl | (simp only [List.length_drop, List.length_take]; rfl)) ?_; (with_reducible refine (spec_l1Rd_pick.calls k g s0_0 s0_1 6 t223 t224 w0 _ ?side1 ?side2 A3.out).mono ?_); (case side1 => repeat (first | (with_reducible first | exact HI0.out | apply IsS83.alloc | apply IsS83.drewN | apply IsS83.drew | apply IsS83.set_1 | refine IsS83.far ?_ NB0_213.out _ | refine IsS83.far ?_ NB0_222.out _) | exact HI0.out)); (case side2 => repeat (first | (with_reducible first | exact HB.out | apply qF | apply qC | apply qE | refine qB ?_ (IsS83.ge HI0.out) | refine qB ?_ GE213.out | refine qB ?_ GE222.out) | exact HB.out)); rintro e w12 ⟨rfl, hi, hb, hk⟩; refine ⟨_, rfl, ?_⟩; have n0_ := Aside0.mk (KeepBut.blk hk (g' := gb213) (o := .cells #[.slice none 0 0, .slice none 0 0, .int .i64 0, .int .i64 0] 26 (0, 0)) (by (with_reducible repeat (first | refine qH ?_ _ | refine qI ?_ | refine qG ?_ _)); refine qR ?_ NB213_222.out _; (with_reducible repeat (first | refine qH ?_ _ | refine qI ?_ | refine qG ?_ _)); refine qR ?_ NB213_222.out _; (with_reducible repeat (first | refine qH ?_ _ | refine qI ?_ | refine qG ?_ _)); refine qR ?_ NB213_222.out _; (with_reducible repeat (first | refine qH ?_ _ | refine qI ?_ | refine qG ?_ _)); refine qR ?_ NB213_222.out _; (with_reducible repeat (first | refine qH ?_ _ | refine qI ?_ | refine qG ?_ _)); exact BK213.out) NB213_0.out (by simp)); have n1_ := Aside0.mk (Kd.qS (Kd.zM (IsS83.apart (show IsS83 w0 _ g s0_0 s0_1 from by repeat (first | (with_reducible first | exact HI0.out | apply IsS83.alloc | apply IsS83.drewN | apply IsS83.drew | apply IsS83.set_1 | refine IsS83.far ?_ NB0_213.out _ | refine IsS83.far ?_ NB0_222.out _) | exact HI0.out)) (by (with_reducible repeat (first | apply Kd.qX | apply Kd.qV | apply Kd.qW)); exact (Kd.qS (Kd.R_far (p := ⟨gb222, 3, none⟩) (Kd.R_far (p := ⟨gb222, 2, none⟩) (Kd.R_far (p := ⟨gb222, 1, none⟩) (Kd.R_far (p := ⟨gb222, 0, none⟩) (Kd.qY HO216.out BK222.out (by decide)) (fun _ hk => hk.2) (.slice Ao7 t214.length co7)) (fun _ hk => hk.2) (.slice Ao11 t217.length co11)) (fun _ hk => hk.2) (.int .i64 t220)) (fun _ hk => hk.2) (.int .i64 t221)) (fun _ h_ => h_.1))) (by decide)) hk (fun _ h => h.2)) (fun _ h => h.1)); have n2_ := Aside0.mk (Kd.qS (Kd.zM (IsS83.apart (show IsS83 w0 _ g s0_0 s0_1 from by repeat (first | (with_reducible first | exact HI0.out | apply IsS83.alloc | apply IsS83.drewN | apply IsS83.drew | apply IsS83.set_1 | refine IsS83.far ?_ NB0_213.out _ | refine IsS83.far ?_ NB0_222.out _) | exact HI0.out)) (by (with_reducible repeat (first | apply Kd.qX | apply Kd.qV | apply Kd.qW)); exact (Kd.qS (Kd.R_far (p := ⟨gb222, 3, none⟩) (Kd.R_far (p := ⟨gb222, 2, none⟩) (Kd.R_far (p := ⟨gb222, 1, none⟩) (Kd.R_far (p := ⟨gb222, 0, none⟩) (Kd.qY HO219.out BK222.out (by decide)) (fun _ hk => hk.2) (.slice Ao7 t214.length co7)) (fun _ hk => hk.2) (.slice Ao11 t217.length co11)) (fun _ hk => hk.2) (.int .i64 t220)) (fun _ hk => hk.2) (.int .i64 t221)) (fun _ h_ => h_.1))) (by decide)) hk (fun _ h => h.2)) (fun _ h => h.1)); have n3_ := Aside0.mk (KeepBut.blk hk (g' := gb222) (o := .cells #[.slice Ao7 t214.length co7, .slice Ao11 t217.length co11, .int .i64 t220, .int .i64 t221] 26 (0, 0)) (by (with_reducible repeat (first | refine qH ?_ _ | refine qI ?_ | refine qG ?_ _)); refine qP (cs := #[.slice Ao7 t214.length co7, .slice Ao11 t217.length co11, .int .i64 t220, .int .i64 0]) ?_ 3 _ rfl; (with_reducible repeat (first | refine qH ?_ _ | refine qI ?_ | refine qG ?_ _)); refine qP (cs := #[.slice Ao7 t214.length co7, .slice Ao11 t217.length co11, .int .i64 0, .int .i64 0]) ?_ 2 _ rfl; (with_reducible repeat (first | refine qH ?_ _ | refine qI ?_ | refine qG ?_ _)); refine qP (cs := #[.slice Ao7 t214.length co7, .slice none 0 0, .int .i64 0, .int .i64 0]) ?_ 1 _ rfl; (with_reducible repeat (first | refine qH ?_ _ | refine qI ?_ | refine qG ?_ _)); refine qP (cs := #[.slice none 0 0, .slice none 0 0, .int .i64 0, .int .i64 0]) ?_ 0 _ rfl; (with_reducible repeat (first | refine qH ?_ _ | refine qI ?_ | refine qG ?_ _)); exact BK222.out) NB222_0.out (by simp)); have n4_ := Aside0.mk (KeepBut.trans (by repeat (first | (with_reducible first | exact HK.out | apply KeepBut.set_ | apply qK | apply qO | apply qL | refine qQ ?_ GW213.out _ | refine qQ ?_ GW222.out _) | exact HK.out)) hk (.inl rfl)); have n5_ := Aside0.mk (hb); have n6_ := Aside0.mk (hi); clear BK213; clear HO216; clear HO219; clear BK222; clear HK; clear HB; clear HI0; have BK213 := n0_; have HO216 := n1_; have HO219 := n2_; have BK222 := n3_; have HK := n4_; have HB := n5_; have HI0 := n6_; clear n0_ n1_ n2_ n3_ n4_ n5_ n6_; (try clear hb); (try clear hb2); (try clear hk); (try clear hi)))
  go_loopg [4] k (fun kq v4 w' => ∃ (x4_1 : Int) (x1001_1 : Int) (x223000_1 : List ByteArray) (x223001_1 : List (S70)) (x223002_1 : Int) (x223003_1 : Int) (u223000 : Value) (u223001 : Value), v4 = .int .i64 x4_1 ∧ Aside0 (spec_l15Disk.l0 kq x4_1 s0_0 x1001_1 x223000_1 x223001_1 x223002_1 x223003_1 = some (r1, r2, r3, r4, r5)) ∧ Aside0 (kq ≤ k) ∧ Aside0 (Kd.R Kd.string 9 w' w.heap.size (fun _ => True) u223000 x223000_1) ∧ Aside0 (Kd.R k70 70 w' w.heap.size (fun _ => True) u223001 x223001_1) ∧ Aside0 (w'.heap[gb213]? = some (.cells #[(.slice none 0 0), (.slice none 0 0), .int .i64 0, .int .i64 0] 26 (0, 0))) ∧ Aside0 (w'.heap[gb222]? = some (.cells #[u223000, u223001, .int .i64 x223002_1, .int .i64 x223003_1] 26 (0, 0))) ∧ Aside0 (IsS83 w0 w' g s0_0 x1001_1) ∧ Aside0 (KeepBut w w' g none) ∧ Aside0 (Below w0.heap.size w0 w'))
  case atStart => exact ⟨(t223), (t224), (t214), (t217), (t220), (t221), (.slice Ao7 t214.length co7), (.slice Ao11 t217.length co11), (by first | rfl | (simp; done) | (simp [*]; done)), H', ⟨Nat.le_refl _⟩, ⟨by (with_reducible repeat (first | apply Kd.qX | apply Kd.qV | apply Kd.qW)); exact HO216.out⟩, ⟨by (with_reducible repeat (first | apply Kd.qX | apply Kd.qV | apply Kd.qW)); exact HO219.out⟩, ⟨by (with_reducible repeat (first | refine qH ?_ _ | refine qI ?_ | refine qG ?_ _)); exact BK213.out⟩, ⟨by (with_reducible repeat (first | refine qH ?_ _ | refine qI ?_ | refine qG ?_ _)); exact BK222.out⟩, ⟨by repeat (first | (with_reducible first | exact HI0.out | apply IsS83.alloc | apply IsS83.drewN | apply IsS83.drew | apply IsS83.set_1 | refine IsS83.far ?_ NB0_213.out _ | refine IsS83.far ?_ NB0_222.out _) | exact HI0.out)⟩, ⟨by repeat (first | (with_reducible first | exact HK.out | apply KeepBut.set_ | apply qK | apply qO | apply qL | refine qQ ?_ GW213.out _ | refine qQ ?_ GW222.out _) | exact HK.out)⟩, ⟨by repeat (first | (with_reducible first | exact HB.out | apply qF | apply qC | apply qE | refine qB ?_ (IsS83.ge HI0.out) | refine qB ?_ GE213.out | refine qB ?_ GE222.out) | exact HB.out)⟩⟩
  case round =>
    clear H'
    try clear p2
    try clear c3
    try clear c6
    try clear c8
    try clear c9
    try clear hcz10_0
    try clear hcz10_1
    try clear hcz10_2
    try clear hcz10_3
    try clear hfz10_0
    try clear hfz10_1
    try clear hfz10_2
    try clear hfz10_3
    obtain ⟨x4_1, x1001_1, x223000_1, x223001_1, x223002_1, x223003_1, u223000, u223001, rfl, HA, HK1, HO_223000, HO_223001, BK213, BK222, HI0, HK, HB⟩ := hrel
    cases gk with
    | zero => exact absurd HA.out (by simp [spec_l15Disk.l0])
    | succ k1 =>
      have H := HA.out
      clear HA
      simp only [spec_l15Disk.l0] at H
      by_cases c13 : x4_1 > 0
      · rw [if_pos c13] at H
        have c13b0 : decide (0 < x4_1) = true := decide_eq_true c13
        clear c13
        replace H := Option.bind_eq_some_iff.mp H
        obtain ⟨⟨t225, t226⟩, A140, H⟩ := H
        replace H : ((spec_l1Rd_one.f k1 s0_0 t226 (([0, 1, 2, 3, 21, 22, 23, 41, t225] : List Int))).bind fun bt230 => ((spec_l15PageText.f k1 s0_0 bt230.2).bind fun bt232 => ((spec_l7Write.f k1 x223000_1 x223001_1 x223002_1 x223003_1 bt230.1 bt232.1).bind fun bt234 => (spec_l15Disk.l0 k1 (wrap64 (x4_1 - 1)) s0_0 bt232.2 bt234.1 bt234.2.1 bt234.2.2.1 bt234.2.2.2.1)))) = some (r1, r2, r3, r4, r5) := H
        have A14 := Aside0.mk A140
        clear A140
        obtain ⟨y227, hy227⟩ : ∃ y_ : List Int, y_ = (([0, 1, 2, 3, 21, 22, 23, 41, t225] : List Int)) := ⟨_, rfl⟩
        replace H : ((spec_l1Rd_one.f k1 s0_0 t226 y227).bind fun bt230 => ((spec_l15PageText.f k1 s0_0 bt230.2).bind fun bt232 => ((spec_l7Write.f k1 x223000_1 x223001_1 x223002_1 x223003_1 bt230.1 bt232.1).bind fun bt234 => (spec_l15Disk.l0 k1 (wrap64 (x4_1 - 1)) s0_0 bt232.2 bt234.1 bt234.2.1 bt234.2.2.1 bt234.2.2.2.1)))) = some (r1, r2, r3, r4, r5) := by first | (rw [hy227]; with_reducible exact H) | (have H2_ := (Option.bind_some _ _).symm.trans H; rw [hy227]; with_reducible exact H2_) | (have H2_ := (Option.bind_some _ _).symm.trans H; with_reducible exact H2_) | with_reducible exact H | (rw [hy227]; exact H) | exact H
        have Ny227 := Aside0.mk hy227
        clear hy227
        replace H := Option.bind_eq_some_iff.mp H
        obtain ⟨⟨t230, t231⟩, A150, H⟩ := H
        replace H : ((spec_l15PageText.f k1 s0_0 t231).bind fun bt232 => ((spec_l7Write.f k1 x223000_1 x223001_1 x223002_1 x223003_1 t230 bt232.1).bind fun bt234 => (spec_l15Disk.l0 k1 (wrap64 (x4_1 - 1)) s0_0 bt232.2 bt234.1 bt234.2.1 bt234.2.2.1 bt234.2.2.2.1))) = some (r1, r2, r3, r4, r5) := H
        have A15 := Aside0.mk A150
        clear A150
        replace H := Option.bind_eq_some_iff.mp H
        obtain ⟨⟨t232, t233⟩, A160, H⟩ := H
        replace H : ((spec_l7Write.f k1 x223000_1 x223001_1 x223002_1 x223003_1 t230 t232).bind fun bt234 => (spec_l15Disk.l0 k1 (wrap64 (x4_1 - 1)) s0_0 t233 bt234.1 bt234.2.1 bt234.2.2.1 bt234.2.2.2.1)) = some (r1, r2, r3, r4, r5) := H
        have A16 := Aside0.mk A160
        clear A160
        replace H := Option.bind_eq_some_iff.mp H
        obtain ⟨⟨t234, t237, t240, t241, t242⟩, A170, H⟩ := H
        replace H : (spec_l15Disk.l0 k1 (wrap64 (x4_1 - 1)) s0_0 t233 t234 t237 t240 t241) = some (r1, r2, r3, r4, r5) := H
        have A17 := Aside0.mk A170
        clear A170
        have H' := Aside0.mk H
        clear H
        try go_wp2
        have n0_ := Aside0.mk (Kd.qW HO_223000.out)
        have n1_ := Aside0.mk (Kd.qW HO_223001.out)
        have n2_ := Aside0.mk (qI BK213.out)
        have n3_ := Aside0.mk (qI BK222.out)
        have n4_ := Aside0.mk (IsS83.drew HI0.out)
        have n5_ := Aside0.mk (qO HK.out)
        have n6_ := Aside0.mk (qE HB.out)
        clear HO_223000
        clear HO_223001
        clear BK213
        clear BK222
        clear HI0
        clear HK
        clear HB
        have HO_223000 := n0_
        have HO_223001 := n1_
        have BK213 := n2_
        have BK222 := n3_
        have HI0 := n4_
        have HK := n5_
        have HB := n6_
        clear n0_ n1_ n2_ n3_ n4_ n5_ n6_
        refine start_ (n := 13) (S := fun w' => w'.cell? ⟨gb222, 0, none⟩ = some (u223000) ∧ w'.cell? ⟨gb222, 1, none⟩ = some (u223001) ∧ w'.cell? ⟨gb222, 2, none⟩ = some (.int .i64 x223002_1) ∧ w'.cell? ⟨gb222, 3, none⟩ = some (.int .i64 x223003_1)) (ds := [12]) #[false, false, false, false, false, false, false, false, false, false, false, false, false] (by kernel_rfl) rfl rfl ⟨(qA BK222.out 0).trans rfl, (qA BK222.out 1).trans rfl, (qA BK222.out 2).trans rfl, (qA BK222.out 3).trans rfl⟩ (fun hHeld => ?_); refine with_tabW spec_l15Disk.tab5 spec_l15Disk.bits5 (fun HT_ HW_ => ?_)
        generalize wr.drew = w18 at HO_223000 HO_223001 BK213 BK222 HI0 HK HB hHeld ⊢
        refine pure_ (i := 1) (N := some 15) (v := ?_) (a' := ?_) #[false, true, false, false, false, false, false, false, false, false, false, false, false] rfl rfl (zK HT_.out (by kernel_rfl)) (fun _ _ _ h => h) (Or.inl ⟨by rfl, ?_⟩) ?_ ?_
        rotate_left
        · intro w'
          go_simp
          with_reducible rfl
        rotate_left
        · simp only [Act.put, List.setIfInBounds_toArray, List.set_cons_zero, List.set_cons_succ, i64_w, i32_w]
          rfl
        refine pure_ (i := 2) (N := some 16) (v := ?_) (a' := ?_) #[false, true, true, false, false, false, false, false, false, false, false, false, false] rfl rfl (zK HT_.out (by kernel_rfl)) (fun _ _ _ h => h) (Or.inl ⟨by rfl, ?_⟩) ?_ ?_
        rotate_left
        · intro w'
          go_simp
          with_reducible rfl
        rotate_left
        · simp only [Act.put, List.setIfInBounds_toArray, List.set_cons_zero, List.set_cons_succ, i64_w, i32_w]
          rfl
        refine pure_ (i := 6) (N := some 20) (v := ?_) (a' := ?_) #[false, true, true, false, false, false, true, false, false, false, false, false, false] rfl rfl (zK HT_.out (by kernel_rfl)) (fun _ _ _ h => h) (Or.inl ⟨by rfl, ?_⟩) ?_ ?_
        rotate_left
        · intro w'
          go_simp
          with_reducible rfl
        rotate_left
        · simp only [Act.put, List.setIfInBounds_toArray, List.set_cons_zero, List.set_cons_succ, i64_w, i32_w]
          rfl
        refine take_ (i := 0) (N := some 14) (v := ?_) (a' := ?_) #[true, true, true, false, false, false, true, false, false, false, false, false, false] rfl rfl (zN HT_.out HW_.out (by kernel_rfl)) (fun _ _ _ h => h) (Or.inl ⟨by rfl, ?_⟩) hHeld ?_ ?_
        rotate_left
        · rintro w' ⟨s0, s1, s2, s3⟩
          go_simp
          with_reducible rfl
        rotate_left
        · simp only [Act.put, List.setIfInBounds_toArray, List.set_cons_zero, List.set_cons_succ, i64_w, i32_w]
          rfl
        refine one_ (i := 3) (N := some 17) #[true, true, true, true, false, false, true, false, false, false, false, false, false] rfl rfl (zR HT_.out (by kernel_rfl)) (by decide) (fun K hK => ?_)
        refine goes_ Try.func34 (by kernel_rfl) rfl #[.pointer (some ⟨g, 0, none⟩), .int .i64 42] (by rfl) rfl rfl (by (try simp only [List.map_toArray, List.map_cons, List.map_nil]); first | done | rfl | (simp only [List.length_drop, List.length_take]; rfl)) ?_
        with_reducible refine (spec_l1Rd_pick.calls k1 g s0_0 x1001_1 42 t225 t226 w0 _ ?side1 ?side2 A14.out).mono ?_
        (case side1 => repeat (first | (with_reducible first | exact HI0.out | apply IsS83.alloc | apply IsS83.drewN | apply IsS83.drew | apply IsS83.set_1 | refine IsS83.far ?_ NB0_213.out _ | refine IsS83.far ?_ NB0_222.out _) | exact HI0.out))
        (case side2 => repeat (first | (with_reducible first | exact HB.out | apply qF | apply qC | apply qE | refine qB ?_ (IsS83.ge HI0.out) | refine qB ?_ GE213.out | refine qB ?_ GE222.out) | exact HB.out))
        rintro e w19 ⟨rfl, hi, hb, hk⟩
        refine ⟨_, rfl, ?_⟩
        have n0_ := Aside0.mk (Kd.qS (Kd.zM (IsS83.apart (show IsS83 w0 _ g s0_0 x1001_1 from by repeat (first | (with_reducible first | exact HI0.out | apply IsS83.alloc | apply IsS83.drewN | apply IsS83.drew | apply IsS83.set_1 | refine IsS83.far ?_ NB0_213.out _ | refine IsS83.far ?_ NB0_222.out _) | exact HI0.out)) (rw_ HO_223000.out) (by decide)) hk (fun _ h => h.2)) (fun _ h => h.1))
        have n1_ := Aside0.mk (Kd.qS (Kd.zM (IsS83.apart (show IsS83 w0 _ g s0_0 x1001_1 from by repeat (first | (with_reducible first | exact HI0.out | apply IsS83.alloc | apply IsS83.drewN | apply IsS83.drew | apply IsS83.set_1 | refine IsS83.far ?_ NB0_213.out _ | refine IsS83.far ?_ NB0_222.out _) | exact HI0.out)) (rw_ HO_223001.out) (by decide)) hk (fun _ h => h.2)) (fun _ h => h.1))
        have n2_ := Aside0.mk (KeepBut.blk hk (g' := gb213) (o := .cells #[.slice none 0 0, .slice none 0 0, .int .i64 0, .int .i64 0] 26 (0, 0)) (bw_ BK213.out) NB213_0.out (by simp))
        have n3_ := Aside0.mk (KeepBut.blk hk (g' := gb222) (o := .cells #[u223000, u223001, .int .i64 x223002_1, .int .i64 x223003_1] 26 (0, 0)) (bw_ BK222.out) NB222_0.out (by simp))
        have n4_ := Aside0.mk (KeepBut.trans (by repeat (first | (with_reducible first | exact HK.out | apply KeepBut.set_ | apply qK | apply qO | apply qL | refine qQ ?_ GW213.out _ | refine qQ ?_ GW222.out _) | exact HK.out)) hk (.inl rfl))
        have n5_ := Aside0.mk (hb)
        have n6_ := Aside0.mk (hi)
        clear HO_223000
        clear HO_223001
        clear BK213
        clear BK222
        clear HK
        clear HB
        clear HI0
        have HO_223000 := n0_
        have HO_223001 := n1_
        have BK213 := n2_
        have BK222 := n3_
        have HK := n4_
        have HB := n5_
        have HI0 := n6_
        clear n0_ n1_ n2_ n3_ n4_ n5_ n6_
        (try clear hb)
        (try clear hb2)
        (try clear hk)
        (try clear hi)
        refine hK.out _ _ ⟨(qA BK222.out 0).trans rfl, (qA BK222.out 1).trans rfl, (qA BK222.out 2).trans rfl, (qA BK222.out 3).trans rfl⟩ (fun hHeld => ?_)
        clear hK K
        refine norm_ (a' := ?_) ?_ ?_
        rotate_left
        · show Act.put _ (some 17) _ = _
          simp only [Act.put, List.setIfInBounds_toArray, List.set_cons_zero, List.set_cons_succ, i64_w, i32_w]
          rfl
        refine one_ (i := 4) (N := some 18) #[true, true, true, true, true, false, true, false, false, false, false, false, false] rfl rfl (zR HT_.out (by kernel_rfl)) (by decide) (fun K hK => ?_)
        refine Kd.R_lit_step (Kd.int .i64) _ 3 ?hg (N := 18) ?hd (xs := ([0, 1, 2, 3, 21, 22, 23, 41, t225] : List Int)) (inner := [.int .i64 0, .int .i64 1, .int .i64 2, .int .i64 3, .int .i64 21, .int .i64 22, .int .i64 23, .int .i64 41, .int .i64 t225]) (ok := fun _ => True) (okp := fun _ => True) ?hr ?hp (fun _ hk => hk) trivial (Below.refl _ _) (Nat.le_refl _) (by simp) ?_; (case hd => rfl); (case hg => rfl); (case hr => first | (go_simp; done) | (go_simp; rfl)); (case hp => exact (Reps.one (show Kd.M (Kd.int .i64) _ _ _ 0 [.int .i64 0] from rfl) (Reps.one (show Kd.M (Kd.int .i64) _ _ _ 1 [.int .i64 1] from rfl) (Reps.one (show Kd.M (Kd.int .i64) _ _ _ 2 [.int .i64 2] from rfl) (Reps.one (show Kd.M (Kd.int .i64) _ _ _ 3 [.int .i64 3] from rfl) (Reps.one (show Kd.M (Kd.int .i64) _ _ _ 21 [.int .i64 21] from rfl) (Reps.one (show Kd.M (Kd.int .i64) _ _ _ 22 [.int .i64 22] from rfl) (Reps.one (show Kd.M (Kd.int .i64) _ _ _ 23 [.int .i64 23] from rfl) (Reps.one (show Kd.M (Kd.int .i64) _ _ _ 41 [.int .i64 41] from rfl) (Reps.one (show Kd.M (Kd.int .i64) _ _ _ t225 [.int .i64 t225] from rfl) (Reps.none _ _)))))))))))
        intro v228 w20 ho21 hb hg_ hnew_
        clear hg_ hnew_
        (first | rw [← Ny227.out] at ho21 | (simp only [Int.reduceToNat] at ho21; rw [← Ny227.out] at ho21))
        have n0_ := Aside0.mk (Kd.qU (rw_ HO_223000.out) hb)
        have n1_ := Aside0.mk (Kd.qU (rw_ HO_223001.out) hb)
        have n2_ := Aside0.mk (Kd.zJ ho21 (zF (w := w) (g := g) (row := none) (by repeat (first | (with_reducible first | exact HK.out | apply KeepBut.set_ | apply qK | apply qO | apply qL | refine qQ ?_ GW213.out _ | refine qQ ?_ GW222.out _) | exact HK.out))))
        have n3_ := Aside0.mk (qJ (g := gb213) (o := .cells #[.slice none 0 0, .slice none 0 0, .int .i64 0, .int .i64 0] 26 (0, 0)) (bw_ BK213.out) hb)
        have n4_ := Aside0.mk (qJ (g := gb222) (o := .cells #[u223000, u223001, .int .i64 x223002_1, .int .i64 x223003_1] 26 (0, 0)) (bw_ BK222.out) hb)
        have n5_ := Aside0.mk (IsS83.below (by repeat (first | (with_reducible first | exact HI0.out | apply IsS83.alloc | apply IsS83.drewN | apply IsS83.drew | apply IsS83.set_1 | refine IsS83.far ?_ NB0_213.out _ | refine IsS83.far ?_ NB0_222.out _) | exact HI0.out)) hb)
        have n6_ := Aside0.mk (KeepBut.trans (by repeat (first | (with_reducible first | exact HK.out | apply KeepBut.set_ | apply qK | apply qO | apply qL | refine qQ ?_ GW213.out _ | refine qQ ?_ GW222.out _) | exact HK.out)) (KeepBut.of_below hb g none) (.inl rfl))
        have n7_ := Aside0.mk (qN (by repeat (first | (with_reducible first | exact HB.out | apply qF | apply qC | apply qE | refine qB ?_ (IsS83.ge HI0.out) | refine qB ?_ GE213.out | refine qB ?_ GE222.out) | exact HB.out)) hb)
        clear HO_223000
        clear HO_223001
        clear BK213
        clear BK222
        clear HI0
        clear HK
        clear HB
        have HO_223000 := n0_
        have HO_223001 := n1_
        have HO229 := n2_
        have BK213 := n3_
        have BK222 := n4_
        have HI0 := n5_
        have HK := n6_
        have HB := n7_
        clear n0_ n1_ n2_ n3_ n4_ n5_ n6_ n7_
        clear hb ho21
        obtain ⟨Ao22, co22, eo22⟩ := Kd.zG HO229.out
        (first | subst eo22 | (injection eo22 with f1_ f2_ f3_; have f4_ := f1_.symm; have f5_ := f3_.symm; clear f1_ f2_ f3_; subst f4_; subst f5_))
        refine hK.out _ _ ⟨(qA BK222.out 0).trans rfl, (qA BK222.out 1).trans rfl, (qA BK222.out 2).trans rfl, (qA BK222.out 3).trans rfl⟩ (fun hHeld => ?_)
        clear hK K
        refine norm_ (a' := ?_) ?_ ?_
        rotate_left
        · show Act.put _ (some 18) _ = _
          simp only [Act.put, List.setIfInBounds_toArray, List.set_cons_zero, List.set_cons_succ, i64_w, i32_w]
          rfl
        refine one_ (i := 5) (N := some 19) #[true, true, true, true, true, true, true, false, false, false, false, false, false] rfl rfl (zR HT_.out (by kernel_rfl)) (by decide) (fun K hK => ?_)
        refine goes_ Try.func40 (by kernel_rfl) rfl #[.pointer (some ⟨g, 0, none⟩), .slice Ao22 y227.length co22] (by rfl) rfl rfl (by (try simp only [List.map_toArray, List.map_cons, List.map_nil]); first | done | rfl | (simp only [List.length_drop, List.length_take]; rfl)) ?_
        with_reducible refine (spec_l1Rd_one.calls k1 g s0_0 t226 _ _ y227 t230 t231 w0 _ ?side1 ?side2 ?side3 ?side4 ?side5 A15.out).mono ?_
        (case side1 => repeat (first | (with_reducible first | exact HI0.out | apply IsS83.alloc | apply IsS83.drewN | apply IsS83.drew | apply IsS83.set_1 | refine IsS83.far ?_ NB0_213.out _ | refine IsS83.far ?_ NB0_222.out _) | exact HI0.out))
        (case side2 => repeat (first | (with_reducible first | exact HB.out | apply qF | apply qC | apply qE | refine qB ?_ (IsS83.ge HI0.out) | refine qB ?_ GE213.out | refine qB ?_ GE222.out) | exact HB.out))
        (case side3 => repeat (first | exact (Kd.zA HO229.out).2.2 | (with_reducible refine Kd.zC ?_ _) | (with_reducible refine Kd.zD ?_ _) | (with_reducible refine Kd.zH ?_)))
        (case side4 => exact (Kd.zA HO229.out).2.1)
        (case side5 => exact far_slice (IsS83.own_ne HI0.out HO229.out (by decide)))
        rintro e w23 ⟨rfl, hi, hb, hk⟩
        refine ⟨_, rfl, ?_⟩
        have n0_ := Aside0.mk (Kd.qS (Kd.zM (IsS83.apart (show IsS83 w0 _ g s0_0 t226 from by repeat (first | (with_reducible first | exact HI0.out | apply IsS83.alloc | apply IsS83.drewN | apply IsS83.drew | apply IsS83.set_1 | refine IsS83.far ?_ NB0_213.out _ | refine IsS83.far ?_ NB0_222.out _) | exact HI0.out)) (rw_ HO_223000.out) (by decide)) hk (fun _ h => h.2)) (fun _ h => h.1))
        have n1_ := Aside0.mk (Kd.qS (Kd.zM (IsS83.apart (show IsS83 w0 _ g s0_0 t226 from by repeat (first | (with_reducible first | exact HI0.out | apply IsS83.alloc | apply IsS83.drewN | apply IsS83.drew | apply IsS83.set_1 | refine IsS83.far ?_ NB0_213.out _ | refine IsS83.far ?_ NB0_222.out _) | exact HI0.out)) (rw_ HO_223001.out) (by decide)) hk (fun _ h => h.2)) (fun _ h => h.1))
        have n2_ := Aside0.mk (KeepBut.blk hk (g' := gb213) (o := .cells #[.slice none 0 0, .slice none 0 0, .int .i64 0, .int .i64 0] 26 (0, 0)) (bw_ BK213.out) NB213_0.out (by simp))
        have n3_ := Aside0.mk (KeepBut.blk hk (g' := gb222) (o := .cells #[u223000, u223001, .int .i64 x223002_1, .int .i64 x223003_1] 26 (0, 0)) (bw_ BK222.out) NB222_0.out (by simp))
        have n4_ := Aside0.mk (Kd.qS (Kd.zM (IsS83.apart (show IsS83 w0 _ g s0_0 t226 from by repeat (first | (with_reducible first | exact HI0.out | apply IsS83.alloc | apply IsS83.drewN | apply IsS83.drew | apply IsS83.set_1 | refine IsS83.far ?_ NB0_213.out _ | refine IsS83.far ?_ NB0_222.out _) | exact HI0.out)) (rw_ HO229.out) (by decide)) hk (fun _ h => h.2)) (fun _ h => h.1))
        have n5_ := Aside0.mk (KeepBut.trans (by repeat (first | (with_reducible first | exact HK.out | apply KeepBut.set_ | apply qK | apply qO | apply qL | refine qQ ?_ GW213.out _ | refine qQ ?_ GW222.out _) | exact HK.out)) hk (.inl rfl))
        have n6_ := Aside0.mk (hb)
        have n7_ := Aside0.mk (hi)
        clear HO_223000
        clear HO_223001
        clear BK213
        clear BK222
        clear HO229
        clear HK
        clear HB
        clear HI0
        have HO_223000 := n0_
        have HO_223001 := n1_
        have BK213 := n2_
        have BK222 := n3_
        have HO229 := n4_
        have HK := n5_
        have HB := n6_
        have HI0 := n7_
        clear n0_ n1_ n2_ n3_ n4_ n5_ n6_ n7_
        (try clear hb)
        (try clear hb2)
        (try clear hk)
        (try clear hi)
        refine hK.out _ _ ⟨(qA BK222.out 0).trans rfl, (qA BK222.out 1).trans rfl, (qA BK222.out 2).trans rfl, (qA BK222.out 3).trans rfl⟩ (fun hHeld => ?_)
        clear hK K
        refine norm_ (a' := ?_) ?_ ?_
        rotate_left
        · show Act.put _ (some 19) _ = _
          simp only [Act.put, List.setIfInBounds_toArray, List.set_cons_zero, List.set_cons_succ, i64_w, i32_w]
          rfl
        refine one_ (i := 7) (N := some 21) #[true, true, true, true, true, true, true, true, false, false, false, false, false] rfl rfl (zR HT_.out (by kernel_rfl)) (by decide) (fun K hK => ?_)
        refine goes_ Try.func42 (by kernel_rfl) rfl #[.pointer (some ⟨g, 0, none⟩)] (by rfl) rfl rfl (by (try simp only [List.map_toArray, List.map_cons, List.map_nil]); first | done | rfl | (simp only [List.length_drop, List.length_take]; rfl)) ?_
        with_reducible refine (spec_l15PageText.calls k1 g s0_0 t231 t232 t233 w0 _ ?side1 ?side2 A16.out).mono ?_
        (case side1 => repeat (first | (with_reducible first | exact HI0.out | apply IsS83.alloc | apply IsS83.drewN | apply IsS83.drew | apply IsS83.set_1 | refine IsS83.far ?_ NB0_213.out _ | refine IsS83.far ?_ NB0_222.out _) | exact HI0.out))
        (case side2 => repeat (first | (with_reducible first | exact HB.out | apply qF | apply qC | apply qE | refine qB ?_ (IsS83.ge HI0.out) | refine qB ?_ GE213.out | refine qB ?_ GE222.out) | exact HB.out))
        rintro e w24 ⟨rfl, hi, hb, hk⟩
        refine ⟨_, rfl, ?_⟩
        have n0_ := Aside0.mk (Kd.qS (Kd.zM (IsS83.apart (show IsS83 w0 _ g s0_0 t231 from by repeat (first | (with_reducible first | exact HI0.out | apply IsS83.alloc | apply IsS83.drewN | apply IsS83.drew | apply IsS83.set_1 | refine IsS83.far ?_ NB0_213.out _ | refine IsS83.far ?_ NB0_222.out _) | exact HI0.out)) (rw_ HO_223000.out) (by decide)) hk (fun _ h => h.2)) (fun _ h => h.1))
        have n1_ := Aside0.mk (Kd.qS (Kd.zM (IsS83.apart (show IsS83 w0 _ g s0_0 t231 from by repeat (first | (with_reducible first | exact HI0.out | apply IsS83.alloc | apply IsS83.drewN | apply IsS83.drew | apply IsS83.set_1 | refine IsS83.far ?_ NB0_213.out _ | refine IsS83.far ?_ NB0_222.out _) | exact HI0.out)) (rw_ HO_223001.out) (by decide)) hk (fun _ h => h.2)) (fun _ h => h.1))
        have n2_ := Aside0.mk (KeepBut.blk hk (g' := gb213) (o := .cells #[.slice none 0 0, .slice none 0 0, .int .i64 0, .int .i64 0] 26 (0, 0)) (bw_ BK213.out) NB213_0.out (by simp))
        have n3_ := Aside0.mk (KeepBut.blk hk (g' := gb222) (o := .cells #[u223000, u223001, .int .i64 x223002_1, .int .i64 x223003_1] 26 (0, 0)) (bw_ BK222.out) NB222_0.out (by simp))
        have n4_ := Aside0.mk (Kd.qS (Kd.zM (IsS83.apart (show IsS83 w0 _ g s0_0 t231 from by repeat (first | (with_reducible first | exact HI0.out | apply IsS83.alloc | apply IsS83.drewN | apply IsS83.drew | apply IsS83.set_1 | refine IsS83.far ?_ NB0_213.out _ | refine IsS83.far ?_ NB0_222.out _) | exact HI0.out)) (rw_ HO229.out) (by decide)) hk (fun _ h => h.2)) (fun _ h => h.1))
        have n5_ := Aside0.mk (KeepBut.trans (by repeat (first | (with_reducible first | exact HK.out | apply KeepBut.set_ | apply qK | apply qO | apply qL | refine qQ ?_ GW213.out _ | refine qQ ?_ GW222.out _) | exact HK.out)) hk (.inl rfl))
        have n6_ := Aside0.mk (hb)
        have n7_ := Aside0.mk (hi)
        clear HO_223000
        clear HO_223001
        clear BK213
        clear BK222
        clear HO229
        clear HK
        clear HB
        clear HI0
        have HO_223000 := n0_
        have HO_223001 := n1_
        have BK213 := n2_
        have BK222 := n3_
        have HO229 := n4_
        have HK := n5_
        have HB := n6_
        have HI0 := n7_
        clear n0_ n1_ n2_ n3_ n4_ n5_ n6_ n7_
        (try clear hb)
        (try clear hb2)
        (try clear hk)
        (try clear hi)
        obtain ⟨Ao25, co25, eo25⟩ := Kd.zG HO_223000.out
        (first | subst eo25 | (injection eo25 with f1_ f2_ f3_; have f4_ := f1_.symm; have f5_ := f3_.symm; clear f1_ f2_ f3_; subst f4_; subst f5_))
        obtain ⟨Ao26, co26, eo26⟩ := Kd.zG HO_223001.out
        (first | subst eo26 | (injection eo26 with f1_ f2_ f3_; have f4_ := f1_.symm; have f5_ := f3_.symm; clear f1_ f2_ f3_; subst f4_; subst f5_))
        refine hK.out _ _ ⟨(qA BK222.out 0).trans rfl, (qA BK222.out 1).trans rfl, (qA BK222.out 2).trans rfl, (qA BK222.out 3).trans rfl⟩ (fun hHeld => ?_)
        clear hK K
        refine norm_ (a' := ?_) ?_ ?_
        rotate_left
        · show Act.put _ (some 21) _ = _
          simp only [Act.put, List.setIfInBounds_toArray, List.set_cons_zero, List.set_cons_succ, i64_w, i32_w]
          rfl
        refine one_ (i := 8) (N := some 22) #[true, true, true, true, true, true, true, true, true, false, false, false, false] rfl rfl (zR HT_.out (by kernel_rfl)) (by decide) (fun K hK => ?_)
        refine goes_ Try.func43 (by kernel_rfl) rfl #[.agg #[.slice Ao25 x223000_1.length co25, .slice Ao26 x223001_1.length co26, .int .i64 x223002_1, .int .i64 x223003_1], .int .i64 t230, .string t232] (by rfl) rfl rfl (by (try simp only [List.map_toArray, List.map_cons, List.map_nil]); first | done | rfl | (simp only [List.length_drop, List.length_take]; rfl)) ?_
        with_reducible refine (spec_l7Write.calls k1 _ _ x223000_1 _ _ x223001_1 x223002_1 x223003_1 t230 t232 t234 t237 t240 t241 t242 _ ?side1 ?side2 ?side3 ?side4 A17.out).mono ?_
        (case side1 => repeat (first | exact (Kd.zA HO_223000.out).2.2 | (with_reducible refine Kd.zC ?_ _) | (with_reducible refine Kd.zD ?_ _) | (with_reducible refine Kd.zH ?_)))
        (case side2 => exact (Kd.zA HO_223000.out).2.1)
        (case side3 => repeat (first | exact (Kd.zA HO_223001.out).2.2 | (with_reducible refine Kd.zC ?_ _) | (with_reducible refine Kd.zD ?_ _) | (with_reducible refine Kd.zH ?_)))
        (case side4 => exact (Kd.zA HO_223001.out).2.1)
        rintro e w27 ⟨v235, v238, rfl, ho0, ho1, hb⟩
        refine ⟨_, rfl, ?_⟩
        have n0_ := Aside0.mk (Kd.zV (rw_ HO_223000.out) (Kd.zY ho0) hb)
        have n1_ := Aside0.mk (Kd.zV (rw_ HO_223001.out) (Kd.zY ho1) hb)
        have n2_ := Aside0.mk (Kd.qU (rw_ HO229.out) hb)
        have n3_ := Aside0.mk (Kd.zJ (Kd.zZ ho0 (Kd.R_lt (rw_ HO_223000.out))) (zF (w := w) (g := g) (row := none) (by repeat (first | (with_reducible first | exact HK.out | apply KeepBut.set_ | apply qK | apply qO | apply qL | refine qQ ?_ GW213.out _ | refine qQ ?_ GW222.out _) | exact HK.out))))
        have n4_ := Aside0.mk (Kd.zJ (Kd.zZ ho1 (Kd.R_lt (rw_ HO_223001.out))) (zF (w := w) (g := g) (row := none) (by repeat (first | (with_reducible first | exact HK.out | apply KeepBut.set_ | apply qK | apply qO | apply qL | refine qQ ?_ GW213.out _ | refine qQ ?_ GW222.out _) | exact HK.out))))
        have n5_ := Aside0.mk (qJ (g := gb213) (o := .cells #[.slice none 0 0, .slice none 0 0, .int .i64 0, .int .i64 0] 26 (0, 0)) (bw_ BK213.out) hb)
        have n6_ := Aside0.mk (qJ (g := gb222) (o := .cells #[.slice Ao25 x223000_1.length co25, .slice Ao26 x223001_1.length co26, .int .i64 x223002_1, .int .i64 x223003_1] 26 (0, 0)) (bw_ BK222.out) hb)
        have n7_ := Aside0.mk (IsS83.below (by repeat (first | (with_reducible first | exact HI0.out | apply IsS83.alloc | apply IsS83.drewN | apply IsS83.drew | apply IsS83.set_1 | refine IsS83.far ?_ NB0_213.out _ | refine IsS83.far ?_ NB0_222.out _) | exact HI0.out)) hb)
        have n8_ := Aside0.mk (KeepBut.trans (by repeat (first | (with_reducible first | exact HK.out | apply KeepBut.set_ | apply qK | apply qO | apply qL | refine qQ ?_ GW213.out _ | refine qQ ?_ GW222.out _) | exact HK.out)) (KeepBut.of_below hb g none) (.inl rfl))
        have n9_ := Aside0.mk (qN (by repeat (first | (with_reducible first | exact HB.out | apply qF | apply qC | apply qE | refine qB ?_ (IsS83.ge HI0.out) | refine qB ?_ GE213.out | refine qB ?_ GE222.out) | exact HB.out)) hb)
        clear HO_223000
        clear HO_223001
        clear HO229
        clear BK213
        clear BK222
        clear HI0
        clear HK
        clear HB
        have HO_223000 := n0_
        have HO_223001 := n1_
        have HO229 := n2_
        have HO236 := n3_
        have HO239 := n4_
        have BK213 := n5_
        have BK222 := n6_
        have HI0 := n7_
        have HK := n8_
        have HB := n9_
        clear n0_ n1_ n2_ n3_ n4_ n5_ n6_ n7_ n8_ n9_
        (try clear hb)
        (try clear hb2)
        (try clear hk)
        (try clear hi)
        (try clear ho0)
        (try clear ho1)
        obtain ⟨Ao28, co28, eo28⟩ := Kd.zG HO236.out
        (first | subst eo28 | (injection eo28 with f1_ f2_ f3_; have f4_ := f1_.symm; have f5_ := f3_.symm; clear f1_ f2_ f3_; subst f4_; subst f5_))
        obtain ⟨Ao30, co30, eo30⟩ := Kd.zG HO239.out
        (first | subst eo30 | (injection eo30 with f1_ f2_ f3_; have f4_ := f1_.symm; have f5_ := f3_.symm; clear f1_ f2_ f3_; subst f4_; subst f5_))
        refine hK.out _ _ ⟨(qA BK222.out 0).trans rfl, (qA BK222.out 1).trans rfl, (qA BK222.out 2).trans rfl, (qA BK222.out 3).trans rfl⟩ (fun hHeld => ?_)
        clear hK K
        refine norm_ (a' := ?_) ?_ ?_
        rotate_left
        · show Act.put _ (some 22) _ = _
          simp only [Act.put, List.setIfInBounds_toArray, List.set_cons_zero, List.set_cons_succ, i64_w, i32_w]
          rfl
        refine pure_ (i := 9) (N := some 13) (v := ?_) (a' := ?_) #[true, true, true, true, true, true, true, true, true, true, false, false, false] rfl rfl (zK HT_.out (by kernel_rfl)) (fun _ _ _ h => h) (Or.inl ⟨by rfl, ?_⟩) ?_ ?_
        rotate_left
        · intro w'
          go_simp
          with_reducible rfl
        rotate_left
        · simp only [Act.put, List.setIfInBounds_toArray, List.set_cons_zero, List.set_cons_succ, i64_w, i32_w]
          rfl
        refine pure_ (i := 10) (N := some 23) (v := ?_) (a' := ?_) #[true, true, true, true, true, true, true, true, true, true, true, false, false] rfl rfl (zK HT_.out (by kernel_rfl)) (fun _ _ _ h => h) (Or.inl ⟨by rfl, ?_⟩) ?_ ?_
        rotate_left
        · intro w'
          go_simp
          with_reducible rfl
        rotate_left
        · simp only [Act.put, List.setIfInBounds_toArray, List.set_cons_zero, List.set_cons_succ, i64_w, i32_w]
          rfl
        refine pure_ (i := 11) (N := some 24) (v := ?_) (a' := ?_) #[true, true, true, true, true, true, true, true, true, true, true, true, false] rfl rfl (zK HT_.out (by kernel_rfl)) (fun _ _ _ h => h) (Or.inl ⟨by rfl, ?_⟩) ?_ ?_
        rotate_left
        · intro w'
          go_simp
          with_reducible rfl
        rotate_left
        · simp only [Act.put, List.setIfInBounds_toArray, List.set_cons_zero, List.set_cons_succ, i64_w, i32_w]
          rfl
        refine last_ (i := 12) (N := none) #[true, true, true, true, true, true, true, true, true, true, true, true, true] rfl rfl (zR HT_.out (by kernel_rfl)) (by decide) (fun K hK => ?_)
        have hs29 : w27.cell? ⟨gb222, 0, none⟩ = some (.slice Ao25 x223000_1.length co25) := (qA BK222.out 0).trans rfl
        have hfs29 := qD BK222.out 0
        have hns29_0 := NB213_222.out
        have hms29_0 := NB222_213.out
        have hs31 : w27.cell? ⟨gb222, 1, none⟩ = some (.slice Ao26 x223001_1.length co26) := (qA BK222.out 1).trans rfl
        have hfs31 := qD BK222.out 1
        have hns31_0 := NB213_222.out
        have hms31_0 := NB222_213.out
        have hs32 : w27.cell? ⟨gb222, 2, none⟩ = some (.int .i64 x223002_1) := (qA BK222.out 2).trans rfl
        have hfs32 := qD BK222.out 2
        have hns32_0 := NB213_222.out
        have hms32_0 := NB222_213.out
        have hs33 : w27.cell? ⟨gb222, 3, none⟩ = some (.int .i64 x223003_1) := (qA BK222.out 3).trans rfl
        have hfs33 := qD BK222.out 3
        have hns33_0 := NB213_222.out
        have hms33_0 := NB222_213.out
        refine skip_ (w1 := ?_) (by rfl) rfl ?_ ?_
        rotate_left
        · go_simp
          rfl
        refine hK.out _ _ ?_
        clear hK K
        refine done_ (done_of HT_.out (by kernel_rfl)) ?_
        try go_wp2
        go_roundg k1
        case measure => have := HK1.out; omega
        case rel => exact ⟨(wrap64 (x4_1 - 1)), (t233), (t234), (t237), (t240), (t241), (.slice Ao28 t234.length co28), (.slice Ao30 t237.length co30), (by first | rfl | (simp; done) | (simp [*]; done)), H', ⟨by have := HK1.out; omega⟩, ⟨by (with_reducible repeat (first | apply Kd.qX | apply Kd.qV | apply Kd.qW)); exact Kd.qS (Kd.R_far (p := ⟨gb222, 3, none⟩) (Kd.R_far (p := ⟨gb222, 2, none⟩) (Kd.R_far (p := ⟨gb222, 1, none⟩) (Kd.R_far (p := ⟨gb222, 0, none⟩) (Kd.qY HO236.out BK222.out (by decide)) (fun _ hk => hk.2) (.slice Ao28 t234.length co28)) (fun _ hk => hk.2) (.slice Ao30 t237.length co30)) (fun _ hk => hk.2) (.int .i64 t240)) (fun _ hk => hk.2) (.int .i64 t241)) (fun _ hk => trivial)⟩, ⟨by (with_reducible repeat (first | apply Kd.qX | apply Kd.qV | apply Kd.qW)); exact Kd.qS (Kd.R_far (p := ⟨gb222, 3, none⟩) (Kd.R_far (p := ⟨gb222, 2, none⟩) (Kd.R_far (p := ⟨gb222, 1, none⟩) (Kd.R_far (p := ⟨gb222, 0, none⟩) (Kd.qY HO239.out BK222.out (by decide)) (fun _ hk => hk.2) (.slice Ao28 t234.length co28)) (fun _ hk => hk.2) (.slice Ao30 t237.length co30)) (fun _ hk => hk.2) (.int .i64 t240)) (fun _ hk => hk.2) (.int .i64 t241)) (fun _ hk => trivial)⟩, ⟨by (with_reducible repeat (first | refine qH ?_ _ | refine qI ?_ | refine qG ?_ _)); refine qR ?_ NB213_222.out _; (with_reducible repeat (first | refine qH ?_ _ | refine qI ?_ | refine qG ?_ _)); refine qR ?_ NB213_222.out _; (with_reducible repeat (first | refine qH ?_ _ | refine qI ?_ | refine qG ?_ _)); refine qR ?_ NB213_222.out _; (with_reducible repeat (first | refine qH ?_ _ | refine qI ?_ | refine qG ?_ _)); refine qR ?_ NB213_222.out _; (with_reducible repeat (first | refine qH ?_ _ | refine qI ?_ | refine qG ?_ _)); exact BK213.out⟩, ⟨by (with_reducible repeat (first | refine qH ?_ _ | refine qI ?_ | refine qG ?_ _)); refine qP (cs := #[.slice Ao28 t234.length co28, .slice Ao30 t237.length co30, .int .i64 t240, .int .i64 x223003_1]) ?_ 3 _ rfl; (with_reducible repeat (first | refine qH ?_ _ | refine qI ?_ | refine qG ?_ _)); refine qP (cs := #[.slice Ao28 t234.length co28, .slice Ao30 t237.length co30, .int .i64 x223002_1, .int .i64 x223003_1]) ?_ 2 _ rfl; (with_reducible repeat (first | refine qH ?_ _ | refine qI ?_ | refine qG ?_ _)); refine qP (cs := #[.slice Ao28 t234.length co28, .slice Ao26 x223001_1.length co26, .int .i64 x223002_1, .int .i64 x223003_1]) ?_ 1 _ rfl; (with_reducible repeat (first | refine qH ?_ _ | refine qI ?_ | refine qG ?_ _)); refine qP (cs := #[.slice Ao25 x223000_1.length co25, .slice Ao26 x223001_1.length co26, .int .i64 x223002_1, .int .i64 x223003_1]) ?_ 0 _ rfl; (with_reducible repeat (first | refine qH ?_ _ | refine qI ?_ | refine qG ?_ _)); exact BK222.out⟩, ⟨by repeat (first | (with_reducible first | exact HI0.out | apply IsS83.alloc | apply IsS83.drewN | apply IsS83.drew | apply IsS83.set_1 | refine IsS83.far ?_ NB0_213.out _ | refine IsS83.far ?_ NB0_222.out _) | exact HI0.out)⟩, ⟨by repeat (first | (with_reducible first | exact HK.out | apply KeepBut.set_ | apply qK | apply qO | apply qL | refine qQ ?_ GW213.out _ | refine qQ ?_ GW222.out _) | exact HK.out)⟩, ⟨by repeat (first | (with_reducible first | exact HB.out | apply qF | apply qC | apply qE | refine qB ?_ (IsS83.ge HI0.out) | refine qB ?_ GE213.out | refine qB ?_ GE222.out) | exact HB.out)⟩⟩
      · rw [if_neg c13] at H
        have c13b0 : decide (0 < x4_1) = false := decide_eq_false c13
        clear c13
        replace H := Option.bind_eq_some_iff.mp H
        obtain ⟨⟨t243, t244⟩, A340, H⟩ := H
        replace H : (if t243 = 0 then ((spec_l7Sync.f k1 x223000_1 x223001_1 x223002_1 x223003_1).bind fun bt245 => (spec_l15Disk.j1 k1 s0_0 t244 bt245.1 bt245.2.1 bt245.2.2.1 bt245.2.2.2)) else (spec_l15Disk.j1 k1 s0_0 t244 x223000_1 x223001_1 x223002_1 x223003_1)) = some (r1, r2, r3, r4, r5) := H
        have A34 := Aside0.mk A340
        clear A340
        have HC35 := Aside0.mk H
        clear H
        go_upto_if 27 with (first | ((with_reducible refine qT (f := 34) rfl ?_); refine zL (some 26) rfl rfl Try.func34 (by kernel_rfl) rfl #[.pointer (some ⟨g, 0, none⟩), .int .i64 2] rfl (by (try simp only [List.map_toArray, List.map_cons, List.map_nil]); first | done | rfl | (simp only [List.length_drop, List.length_take]; rfl)) ?_; (with_reducible refine (spec_l1Rd_pick.calls k1 g s0_0 x1001_1 2 t243 t244 w0 _ ?side1 ?side2 A34.out).mono ?_); (case side1 => repeat (first | (with_reducible first | exact HI0.out | apply IsS83.alloc | apply IsS83.drewN | apply IsS83.drew | apply IsS83.set_1 | refine IsS83.far ?_ NB0_213.out _ | refine IsS83.far ?_ NB0_222.out _) | exact HI0.out)); (case side2 => repeat (first | (with_reducible first | exact HB.out | apply qF | apply qC | apply qE | refine qB ?_ (IsS83.ge HI0.out) | refine qB ?_ GE213.out | refine qB ?_ GE222.out) | exact HB.out)); rintro e w36 ⟨rfl, hi, hb, hk⟩; refine ⟨_, rfl, ?_⟩; have n0_ := Aside0.mk (Kd.qS (Kd.zM (IsS83.apart (show IsS83 w0 _ g s0_0 x1001_1 from by repeat (first | (with_reducible first | exact HI0.out | apply IsS83.alloc | apply IsS83.drewN | apply IsS83.drew | apply IsS83.set_1 | refine IsS83.far ?_ NB0_213.out _ | refine IsS83.far ?_ NB0_222.out _) | exact HI0.out)) (rw_ HO_223000.out) (by decide)) hk (fun _ h => h.2)) (fun _ h => h.1)); have n1_ := Aside0.mk (Kd.qS (Kd.zM (IsS83.apart (show IsS83 w0 _ g s0_0 x1001_1 from by repeat (first | (with_reducible first | exact HI0.out | apply IsS83.alloc | apply IsS83.drewN | apply IsS83.drew | apply IsS83.set_1 | refine IsS83.far ?_ NB0_213.out _ | refine IsS83.far ?_ NB0_222.out _) | exact HI0.out)) (rw_ HO_223001.out) (by decide)) hk (fun _ h => h.2)) (fun _ h => h.1)); have n2_ := Aside0.mk (KeepBut.blk hk (g' := gb213) (o := .cells #[.slice none 0 0, .slice none 0 0, .int .i64 0, .int .i64 0] 26 (0, 0)) (bw_ BK213.out) NB213_0.out (by simp)); have n3_ := Aside0.mk (KeepBut.blk hk (g' := gb222) (o := .cells #[u223000, u223001, .int .i64 x223002_1, .int .i64 x223003_1] 26 (0, 0)) (bw_ BK222.out) NB222_0.out (by simp)); have n4_ := Aside0.mk (KeepBut.trans (by repeat (first | (with_reducible first | exact HK.out | apply KeepBut.set_ | apply qK | apply qO | apply qL | refine qQ ?_ GW213.out _ | refine qQ ?_ GW222.out _) | exact HK.out)) hk (.inl rfl)); have n5_ := Aside0.mk (hb); have n6_ := Aside0.mk (hi); clear HO_223000; clear HO_223001; clear BK213; clear BK222; clear HK; clear HB; clear HI0; have HO_223000 := n0_; have HO_223001 := n1_; have BK213 := n2_; have BK222 := n3_; have HK := n4_; have HB := n5_; have HI0 := n6_; clear n0_ n1_ n2_ n3_ n4_ n5_ n6_; (try clear hb); (try clear hb2); (try clear hk); (try clear hi)))
        (try simp only [Act.put, List.setIfInBounds_toArray, List.set_cons_zero, List.set_cons_succ])
        go_cut [] (fun wc => ∃ (kq : Nat) (x223000_34 : List ByteArray) (x223001_34 : List (S70)) (x223002_34 : Int) (x223003_34 : Int) (u223000 : Value) (u223001 : Value), Aside0 (spec_l15Disk.j1 kq s0_0 t244 x223000_34 x223001_34 x223002_34 x223003_34 = some (r1, r2, r3, r4, r5)) ∧ Aside0 (kq ≤ k1) ∧ Aside0 (Kd.R Kd.string 9 wc w.heap.size (fun _ => True) u223000 x223000_34) ∧ Aside0 (Kd.R k70 70 wc w.heap.size (fun _ => True) u223001 x223001_34) ∧ Aside0 (wc.heap[gb213]? = some (.cells #[(.slice none 0 0), (.slice none 0 0), .int .i64 0, .int .i64 0] 26 (0, 0))) ∧ Aside0 (wc.heap[gb222]? = some (.cells #[u223000, u223001, .int .i64 x223002_34, .int .i64 x223003_34] 26 (0, 0))) ∧ Aside0 (IsS83 w0 wc g s0_0 t244) ∧ Aside0 (KeepBut w wc g none) ∧ Aside0 (Below w0.heap.size w0 wc))
        case first =>
          have H := HC35.out
          clear HC35
          by_cases c37 : t243 = 0
          · rw [if_pos c37] at H
            have c37b0 : (t243 == 0) = true := beq_iff_eq.mpr c37
            have c37b1 : (t243 != 0) = false := bne_eq_false_iff_eq.mpr c37
            clear c37
            (first | rw [c37b0] | (simp only [i64_w, i32_w]; rw [c37b0]) | skip)
            replace H := Option.bind_eq_some_iff.mp H
            obtain ⟨⟨t245, t248, t251, t252⟩, A380, H⟩ := H
            replace H : (spec_l15Disk.j1 k1 s0_0 t244 t245 t248 t251 t252) = some (r1, r2, r3, r4, r5) := H
            have A38 := Aside0.mk A380
            clear A380
            have H' := Aside0.mk H
            clear H
            have hnb39 := NB222_213.out
            have hnc39 := NB213_222.out
            have hnb40 := NB222_0.out
            have hnc40 := NB0_222.out
            have hcz41_0 : w36.cell? ⟨gb222, 0, none⟩ = some (u223000) := (qA BK222.out 0).trans rfl
            have hcz41_1 : w36.cell? ⟨gb222, 1, none⟩ = some (u223001) := (qA BK222.out 1).trans rfl
            have hcz41_2 : w36.cell? ⟨gb222, 2, none⟩ = some (.int .i64 x223002_1) := (qA BK222.out 2).trans rfl
            have hcz41_3 : w36.cell? ⟨gb222, 3, none⟩ = some (.int .i64 x223003_1) := (qA BK222.out 3).trans rfl
            have hfz41_0 := qD BK222.out 0
            have hfz41_1 := qD BK222.out 1
            have hfz41_2 := qD BK222.out 2
            have hfz41_3 := qD BK222.out 3
            obtain ⟨Ao42, co42, eo42⟩ := Kd.zG HO_223000.out
            subst eo42
            obtain ⟨Ao43, co43, eo43⟩ := Kd.zG HO_223001.out
            subst eo43
            go_wp2_with (first | ((with_reducible refine qT (f := 61) rfl ?_); refine zL (some 29) rfl rfl Try.func61 (by kernel_rfl) rfl #[.agg #[.slice Ao42 x223000_1.length co42, .slice Ao43 x223001_1.length co43, .int .i64 x223002_1, .int .i64 x223003_1]] rfl (by (try simp only [List.map_toArray, List.map_cons, List.map_nil]); first | done | rfl | (simp only [List.length_drop, List.length_take]; rfl)) ?_; (with_reducible refine (spec_l7Sync.calls k1 _ _ x223000_1 _ _ x223001_1 x223002_1 x223003_1 t245 t248 t251 t252 _ ?side1 ?side2 ?side3 ?side4 A38.out).mono ?_); (case side1 => repeat (first | exact (Kd.zA HO_223000.out).2.2 | (with_reducible refine Kd.zC ?_ _) | (with_reducible refine Kd.zD ?_ _) | (with_reducible refine Kd.zH ?_))); (case side2 => exact (Kd.zA HO_223000.out).2.1); (case side3 => repeat (first | exact (Kd.zA HO_223001.out).2.2 | (with_reducible refine Kd.zC ?_ _) | (with_reducible refine Kd.zD ?_ _) | (with_reducible refine Kd.zH ?_))); (case side4 => exact (Kd.zA HO_223001.out).2.1); rintro e w44 ⟨v246, v249, rfl, ho0, ho1, hb⟩; refine ⟨_, rfl, ?_⟩; have n0_ := Aside0.mk (Kd.zV (rw_ HO_223000.out) (Kd.zY ho0) hb); have n1_ := Aside0.mk (Kd.zV (rw_ HO_223001.out) (Kd.zY ho1) hb); have n2_ := Aside0.mk (Kd.zJ (Kd.zZ ho0 (Kd.R_lt (rw_ HO_223000.out))) (zF (w := w) (g := g) (row := none) (by repeat (first | (with_reducible first | exact HK.out | apply KeepBut.set_ | apply qK | apply qO | apply qL | refine qQ ?_ GW213.out _ | refine qQ ?_ GW222.out _) | exact HK.out)))); have n3_ := Aside0.mk (Kd.zJ (Kd.zZ ho1 (Kd.R_lt (rw_ HO_223001.out))) (zF (w := w) (g := g) (row := none) (by repeat (first | (with_reducible first | exact HK.out | apply KeepBut.set_ | apply qK | apply qO | apply qL | refine qQ ?_ GW213.out _ | refine qQ ?_ GW222.out _) | exact HK.out)))); have n4_ := Aside0.mk (qJ (g := gb213) (o := .cells #[.slice none 0 0, .slice none 0 0, .int .i64 0, .int .i64 0] 26 (0, 0)) (bw_ BK213.out) hb); have n5_ := Aside0.mk (qJ (g := gb222) (o := .cells #[.slice Ao42 x223000_1.length co42, .slice Ao43 x223001_1.length co43, .int .i64 x223002_1, .int .i64 x223003_1] 26 (0, 0)) (bw_ BK222.out) hb); have n6_ := Aside0.mk (IsS83.below (by repeat (first | (with_reducible first | exact HI0.out | apply IsS83.alloc | apply IsS83.drewN | apply IsS83.drew | apply IsS83.set_1 | refine IsS83.far ?_ NB0_213.out _ | refine IsS83.far ?_ NB0_222.out _) | exact HI0.out)) hb); have n7_ := Aside0.mk (KeepBut.trans (by repeat (first | (with_reducible first | exact HK.out | apply KeepBut.set_ | apply qK | apply qO | apply qL | refine qQ ?_ GW213.out _ | refine qQ ?_ GW222.out _) | exact HK.out)) (KeepBut.of_below hb g none) (.inl rfl)); have n8_ := Aside0.mk (qN (by repeat (first | (with_reducible first | exact HB.out | apply qF | apply qC | apply qE | refine qB ?_ (IsS83.ge HI0.out) | refine qB ?_ GE213.out | refine qB ?_ GE222.out) | exact HB.out)) hb); clear HO_223000; clear HO_223001; clear BK213; clear BK222; clear HI0; clear HK; clear HB; have HO_223000 := n0_; have HO_223001 := n1_; have HO247 := n2_; have HO250 := n3_; have BK213 := n4_; have BK222 := n5_; have HI0 := n6_; have HK := n7_; have HB := n8_; clear n0_ n1_ n2_ n3_ n4_ n5_ n6_ n7_ n8_; (try clear hb); (try clear hb2); (try clear hk); (try clear hi); (try clear ho0); (try clear ho1); obtain ⟨Ao45, co45, eo45⟩ := Kd.zG HO247.out; subst eo45; have hcz46_0 : w44.cell? ⟨gb222, 0, none⟩ = some (.slice Ao42 x223000_1.length co42) := (qA BK222.out 0).trans rfl; have hcz46_1 : w44.cell? ⟨gb222, 1, none⟩ = some (.slice Ao43 x223001_1.length co43) := (qA BK222.out 1).trans rfl; have hcz46_2 : w44.cell? ⟨gb222, 2, none⟩ = some (.int .i64 x223002_1) := (qA BK222.out 2).trans rfl; have hcz46_3 : w44.cell? ⟨gb222, 3, none⟩ = some (.int .i64 x223003_1) := (qA BK222.out 3).trans rfl; have hfz46_0 := qD BK222.out 0; have hfz46_1 := qD BK222.out 1; have hfz46_2 := qD BK222.out 2; have hfz46_3 := qD BK222.out 3; obtain ⟨Ao47, co47, eo47⟩ := Kd.zG HO250.out; subst eo47))
            go_meet
            case rel => exact ⟨_, (t245), (t248), (t251), (t252), (.slice Ao45 t245.length co45), (.slice Ao47 t248.length co47), H', ⟨by have := HK1.out; first | omega | exact Nat.le_refl _⟩, ⟨by (with_reducible repeat (first | apply Kd.qX | apply Kd.qV | apply Kd.qW)); exact Kd.qS (Kd.R_far (p := ⟨gb222, 3, none⟩) (Kd.R_far (p := ⟨gb222, 2, none⟩) (Kd.R_far (p := ⟨gb222, 1, none⟩) (Kd.R_far (p := ⟨gb222, 0, none⟩) (Kd.qY HO247.out BK222.out (by decide)) (fun _ hk => hk.2) (.slice Ao45 t245.length co45)) (fun _ hk => hk.2) (.slice Ao47 t248.length co47)) (fun _ hk => hk.2) (.int .i64 t251)) (fun _ hk => hk.2) (.int .i64 t252)) (fun _ hk => trivial)⟩, ⟨by (with_reducible repeat (first | apply Kd.qX | apply Kd.qV | apply Kd.qW)); exact Kd.qS (Kd.R_far (p := ⟨gb222, 3, none⟩) (Kd.R_far (p := ⟨gb222, 2, none⟩) (Kd.R_far (p := ⟨gb222, 1, none⟩) (Kd.R_far (p := ⟨gb222, 0, none⟩) (Kd.qY HO250.out BK222.out (by decide)) (fun _ hk => hk.2) (.slice Ao45 t245.length co45)) (fun _ hk => hk.2) (.slice Ao47 t248.length co47)) (fun _ hk => hk.2) (.int .i64 t251)) (fun _ hk => hk.2) (.int .i64 t252)) (fun _ hk => trivial)⟩, ⟨by (with_reducible repeat (first | refine qH ?_ _ | refine qI ?_ | refine qG ?_ _)); refine qR ?_ NB213_222.out _; (with_reducible repeat (first | refine qH ?_ _ | refine qI ?_ | refine qG ?_ _)); refine qR ?_ NB213_222.out _; (with_reducible repeat (first | refine qH ?_ _ | refine qI ?_ | refine qG ?_ _)); refine qR ?_ NB213_222.out _; (with_reducible repeat (first | refine qH ?_ _ | refine qI ?_ | refine qG ?_ _)); refine qR ?_ NB213_222.out _; (with_reducible repeat (first | refine qH ?_ _ | refine qI ?_ | refine qG ?_ _)); exact BK213.out⟩, ⟨by (with_reducible repeat (first | refine qH ?_ _ | refine qI ?_ | refine qG ?_ _)); refine qP (cs := #[.slice Ao45 t245.length co45, .slice Ao47 t248.length co47, .int .i64 t251, .int .i64 x223003_1]) ?_ 3 _ rfl; (with_reducible repeat (first | refine qH ?_ _ | refine qI ?_ | refine qG ?_ _)); refine qP (cs := #[.slice Ao45 t245.length co45, .slice Ao47 t248.length co47, .int .i64 x223002_1, .int .i64 x223003_1]) ?_ 2 _ rfl; (with_reducible repeat (first | refine qH ?_ _ | refine qI ?_ | refine qG ?_ _)); refine qP (cs := #[.slice Ao45 t245.length co45, .slice Ao43 x223001_1.length co43, .int .i64 x223002_1, .int .i64 x223003_1]) ?_ 1 _ rfl; (with_reducible repeat (first | refine qH ?_ _ | refine qI ?_ | refine qG ?_ _)); refine qP (cs := #[.slice Ao42 x223000_1.length co42, .slice Ao43 x223001_1.length co43, .int .i64 x223002_1, .int .i64 x223003_1]) ?_ 0 _ rfl; (with_reducible repeat (first | refine qH ?_ _ | refine qI ?_ | refine qG ?_ _)); exact BK222.out⟩, ⟨by repeat (first | (with_reducible first | exact HI0.out | apply IsS83.alloc | apply IsS83.drewN | apply IsS83.drew | apply IsS83.set_1 | refine IsS83.far ?_ NB0_213.out _ | refine IsS83.far ?_ NB0_222.out _) | exact HI0.out)⟩, ⟨by repeat (first | (with_reducible first | exact HK.out | apply KeepBut.set_ | apply qK | apply qO | apply qL | refine qQ ?_ GW213.out _ | refine qQ ?_ GW222.out _) | exact HK.out)⟩, ⟨by repeat (first | (with_reducible first | exact HB.out | apply qF | apply qC | apply qE | refine qB ?_ (IsS83.ge HI0.out) | refine qB ?_ GE213.out | refine qB ?_ GE222.out) | exact HB.out)⟩⟩
          · rw [if_neg c37] at H
            have c37b0 : (t243 == 0) = false := beq_eq_false_iff_ne.mpr c37
            have c37b1 : (t243 != 0) = true := bne_iff_ne.mpr c37
            (first | rw [c37b0] | (simp only [i64_w, i32_w]; rw [c37b0]) | skip)
            have H' := Aside0.mk H
            clear H
            go_wp2
            go_meet
            case rel => exact ⟨_, (x223000_1), (x223001_1), (x223002_1), (x223003_1), (u223000), (u223001), H', ⟨by have := HK1.out; first | omega | exact Nat.le_refl _⟩, ⟨by (with_reducible repeat (first | apply Kd.qX | apply Kd.qV | apply Kd.qW)); exact HO_223000.out⟩, ⟨by (with_reducible repeat (first | apply Kd.qX | apply Kd.qV | apply Kd.qW)); exact HO_223001.out⟩, ⟨by (with_reducible repeat (first | refine qH ?_ _ | refine qI ?_ | refine qG ?_ _)); exact BK213.out⟩, ⟨by (with_reducible repeat (first | refine qH ?_ _ | refine qI ?_ | refine qG ?_ _)); exact BK222.out⟩, ⟨by repeat (first | (with_reducible first | exact HI0.out | apply IsS83.alloc | apply IsS83.drewN | apply IsS83.drew | apply IsS83.set_1 | refine IsS83.far ?_ NB0_213.out _ | refine IsS83.far ?_ NB0_222.out _) | exact HI0.out)⟩, ⟨by repeat (first | (with_reducible first | exact HK.out | apply KeepBut.set_ | apply qK | apply qO | apply qL | refine qQ ?_ GW213.out _ | refine qQ ?_ GW222.out _) | exact HK.out)⟩, ⟨by repeat (first | (with_reducible first | exact HB.out | apply qF | apply qC | apply qE | refine qB ?_ (IsS83.ge HI0.out) | refine qB ?_ GE213.out | refine qB ?_ GE222.out) | exact HB.out)⟩⟩
        case rest =>
          clear HC35
          try clear c1
          try clear p2
          try clear c3
          try clear c4
          try clear c6
          try clear p6
          try clear c8
          try clear c9
          try clear c13
          try clear c13b0
          try clear c34
          try clear c37
          try clear c37b0
          try clear c37b1
          try clear c39
          try clear c40
          try clear c42
          try clear c43
          try clear hcz10_0
          try clear hcz10_1
          try clear hcz10_2
          try clear hcz10_3
          try clear hcz41_0
          try clear hcz41_1
          try clear hcz41_2
          try clear hcz41_3
          try clear hcz46_0
          try clear hcz46_1
          try clear hcz46_2
          try clear hcz46_3
          try clear hfz10_0
          try clear hfz10_1
          try clear hfz10_2
          try clear hfz10_3
          try clear hfz41_0
          try clear hfz41_1
          try clear hfz41_2
          try clear hfz41_3
          try clear hfz46_0
          try clear hfz46_1
          try clear hfz46_2
          try clear hfz46_3
          try clear p2
          obtain ⟨kq, x223000_34, x223001_34, x223002_34, x223003_34, u223000, u223001, HA, HJ34, HO_223000, HO_223001, BK213, BK222, HI0, HK, HB⟩ := hcut
          cases kq with
          | zero => exact absurd HA.out (by simp [spec_l15Disk.j1])
          | succ kj34 =>
            have H := HA.out
            clear HA
            simp only [spec_l15Disk.j1] at H
            replace H := Option.bind_eq_some_iff.mp H
            obtain ⟨⟨t253, t254⟩, A480, H⟩ := H
            replace H : (spec_l15Disk.l1 kj34 t253 s0_0 t254 x223000_34 x223001_34 x223002_34 x223003_34) = some (r1, r2, r3, r4, r5) := H
            have A48 := Aside0.mk A480
            clear A480
            have H' := Aside0.mk H
            clear H
            go_wp2_with (first | ((with_reducible refine qT (f := 34) rfl ?_); refine zL (some 31) rfl rfl Try.func34 (by kernel_rfl) rfl #[.pointer (some ⟨g, 0, none⟩), .int .i64 6] rfl (by (try simp only [List.map_toArray, List.map_cons, List.map_nil]); first | done | rfl | (simp only [List.length_drop, List.length_take]; rfl)) ?_; (with_reducible refine (spec_l1Rd_pick.calls kj34 g s0_0 t244 6 t253 t254 w0 _ ?side1 ?side2 A48.out).mono ?_); (case side1 => repeat (first | (with_reducible first | exact HI0.out | apply IsS83.alloc | apply IsS83.drewN | apply IsS83.drew | apply IsS83.set_1 | refine IsS83.far ?_ NB0_213.out _ | refine IsS83.far ?_ NB0_222.out _) | exact HI0.out)); (case side2 => repeat (first | (with_reducible first | exact HB.out | apply qF | apply qC | apply qE | refine qB ?_ (IsS83.ge HI0.out) | refine qB ?_ GE213.out | refine qB ?_ GE222.out) | exact HB.out)); rintro e w49 ⟨rfl, hi, hb, hk⟩; refine ⟨_, rfl, ?_⟩; have n0_ := Aside0.mk (Kd.qS (Kd.zM (IsS83.apart (show IsS83 w0 _ g s0_0 t244 from by repeat (first | (with_reducible first | exact HI0.out | apply IsS83.alloc | apply IsS83.drewN | apply IsS83.drew | apply IsS83.set_1 | refine IsS83.far ?_ NB0_213.out _ | refine IsS83.far ?_ NB0_222.out _) | exact HI0.out)) (rw_ HO_223000.out) (by decide)) hk (fun _ h => h.2)) (fun _ h => h.1)); have n1_ := Aside0.mk (Kd.qS (Kd.zM (IsS83.apart (show IsS83 w0 _ g s0_0 t244 from by repeat (first | (with_reducible first | exact HI0.out | apply IsS83.alloc | apply IsS83.drewN | apply IsS83.drew | apply IsS83.set_1 | refine IsS83.far ?_ NB0_213.out _ | refine IsS83.far ?_ NB0_222.out _) | exact HI0.out)) (rw_ HO_223001.out) (by decide)) hk (fun _ h => h.2)) (fun _ h => h.1)); have n2_ := Aside0.mk (KeepBut.blk hk (g' := gb213) (o := .cells #[.slice none 0 0, .slice none 0 0, .int .i64 0, .int .i64 0] 26 (0, 0)) (bw_ BK213.out) NB213_0.out (by simp)); have n3_ := Aside0.mk (KeepBut.blk hk (g' := gb222) (o := .cells #[u223000, u223001, .int .i64 x223002_34, .int .i64 x223003_34] 26 (0, 0)) (bw_ BK222.out) NB222_0.out (by simp)); have n4_ := Aside0.mk (KeepBut.trans (by repeat (first | (with_reducible first | exact HK.out | apply KeepBut.set_ | apply qK | apply qO | apply qL | refine qQ ?_ GW213.out _ | refine qQ ?_ GW222.out _) | exact HK.out)) hk (.inl rfl)); have n5_ := Aside0.mk (hb); have n6_ := Aside0.mk (hi); clear HO_223000; clear HO_223001; clear BK213; clear BK222; clear HK; clear HB; clear HI0; have HO_223000 := n0_; have HO_223001 := n1_; have BK213 := n2_; have BK222 := n3_; have HK := n4_; have HB := n5_; have HI0 := n6_; clear n0_ n1_ n2_ n3_ n4_ n5_ n6_; (try clear hb); (try clear hb2); (try clear hk); (try clear hi)))
            go_loopg [5] kj34 (fun kq v5 w' => ∃ (x5_3 : Int) (x1001_3 : Int) (x223000_3 : List ByteArray) (x223001_3 : List (S70)) (x223002_3 : Int) (x223003_3 : Int) (u223000 : Value) (u223001 : Value), v5 = .int .i64 x5_3 ∧ Aside0 (spec_l15Disk.l1 kq x5_3 s0_0 x1001_3 x223000_3 x223001_3 x223002_3 x223003_3 = some (r1, r2, r3, r4, r5)) ∧ Aside0 (kq ≤ kj34) ∧ Aside0 (Kd.R Kd.string 9 w' w.heap.size (fun _ => True) u223000 x223000_3) ∧ Aside0 (Kd.R k70 70 w' w.heap.size (fun _ => True) u223001 x223001_3) ∧ Aside0 (w'.heap[gb213]? = some (.cells #[(.slice none 0 0), (.slice none 0 0), .int .i64 0, .int .i64 0] 26 (0, 0))) ∧ Aside0 (w'.heap[gb222]? = some (.cells #[u223000, u223001, .int .i64 x223002_3, .int .i64 x223003_3] 26 (0, 0))) ∧ Aside0 (IsS83 w0 w' g s0_0 x1001_3) ∧ Aside0 (KeepBut w w' g none) ∧ Aside0 (Below w0.heap.size w0 w'))
            case atStart => exact ⟨(t253), (t254), (x223000_34), (x223001_34), (x223002_34), (x223003_34), (u223000), (u223001), (by first | rfl | (simp; done) | (simp [*]; done)), H', ⟨Nat.le_refl _⟩, ⟨by (with_reducible repeat (first | apply Kd.qX | apply Kd.qV | apply Kd.qW)); exact HO_223000.out⟩, ⟨by (with_reducible repeat (first | apply Kd.qX | apply Kd.qV | apply Kd.qW)); exact HO_223001.out⟩, ⟨by (with_reducible repeat (first | refine qH ?_ _ | refine qI ?_ | refine qG ?_ _)); exact BK213.out⟩, ⟨by (with_reducible repeat (first | refine qH ?_ _ | refine qI ?_ | refine qG ?_ _)); exact BK222.out⟩, ⟨by repeat (first | (with_reducible first | exact HI0.out | apply IsS83.alloc | apply IsS83.drewN | apply IsS83.drew | apply IsS83.set_1 | refine IsS83.far ?_ NB0_213.out _ | refine IsS83.far ?_ NB0_222.out _) | exact HI0.out)⟩, ⟨by repeat (first | (with_reducible first | exact HK.out | apply KeepBut.set_ | apply qK | apply qO | apply qL | refine qQ ?_ GW213.out _ | refine qQ ?_ GW222.out _) | exact HK.out)⟩, ⟨by repeat (first | (with_reducible first | exact HB.out | apply qF | apply qC | apply qE | refine qB ?_ (IsS83.ge HI0.out) | refine qB ?_ GE213.out | refine qB ?_ GE222.out) | exact HB.out)⟩⟩
            case round =>
              clear H'
              try clear c1
              try clear p2
              try clear c3
              try clear c4
              try clear c6
              try clear p6
              try clear c8
              try clear c9
              try clear c13
              try clear c13b0
              try clear c34
              try clear c37
              try clear c37b0
              try clear c37b1
              try clear c39
              try clear c40
              try clear c42
              try clear c43
              try clear hcz10_0
              try clear hcz10_1
              try clear hcz10_2
              try clear hcz10_3
              try clear hcz41_0
              try clear hcz41_1
              try clear hcz41_2
              try clear hcz41_3
              try clear hcz46_0
              try clear hcz46_1
              try clear hcz46_2
              try clear hcz46_3
              try clear hfz10_0
              try clear hfz10_1
              try clear hfz10_2
              try clear hfz10_3
              try clear hfz41_0
              try clear hfz41_1
              try clear hfz41_2
              try clear hfz41_3
              try clear hfz46_0
              try clear hfz46_1
              try clear hfz46_2
              try clear hfz46_3
              try clear p2
              try clear p6
              obtain ⟨x5_3, x1001_3, x223000_3, x223001_3, x223002_3, x223003_3, u223000, u223001, rfl, HA, HK3, HO_223000, HO_223001, BK213, BK222, HI0, HK, HB⟩ := hrel
              cases gk with
              | zero => exact absurd HA.out (by simp [spec_l15Disk.l1])
              | succ k3 =>
                have H := HA.out
                clear HA
                simp only [spec_l15Disk.l1] at H
                by_cases c50 : x5_3 > 0
                · rw [if_pos c50] at H
                  have c50b0 : decide (0 < x5_3) = true := decide_eq_true c50
                  clear c50
                  replace H := Option.bind_eq_some_iff.mp H
                  obtain ⟨⟨t265, t266⟩, A510, H⟩ := H
                  replace H : ((spec_l1Rd_one.f k3 s0_0 t266 (([0, 1, 2, 22, t265] : List Int))).bind fun bt270 => ((spec_l15PageText.f k3 s0_0 bt270.2).bind fun bt272 => ((spec_l7Write.f k3 x223000_3 x223001_3 x223002_3 x223003_3 bt270.1 bt272.1).bind fun bt274 => (spec_l15Disk.l1 k3 (wrap64 (x5_3 - 1)) s0_0 bt272.2 bt274.1 bt274.2.1 bt274.2.2.1 bt274.2.2.2.1)))) = some (r1, r2, r3, r4, r5) := H
                  have A51 := Aside0.mk A510
                  clear A510
                  obtain ⟨y267, hy267⟩ : ∃ y_ : List Int, y_ = (([0, 1, 2, 22, t265] : List Int)) := ⟨_, rfl⟩
                  replace H : ((spec_l1Rd_one.f k3 s0_0 t266 y267).bind fun bt270 => ((spec_l15PageText.f k3 s0_0 bt270.2).bind fun bt272 => ((spec_l7Write.f k3 x223000_3 x223001_3 x223002_3 x223003_3 bt270.1 bt272.1).bind fun bt274 => (spec_l15Disk.l1 k3 (wrap64 (x5_3 - 1)) s0_0 bt272.2 bt274.1 bt274.2.1 bt274.2.2.1 bt274.2.2.2.1)))) = some (r1, r2, r3, r4, r5) := by first | (rw [hy267]; with_reducible exact H) | (have H2_ := (Option.bind_some _ _).symm.trans H; rw [hy267]; with_reducible exact H2_) | (have H2_ := (Option.bind_some _ _).symm.trans H; with_reducible exact H2_) | with_reducible exact H | (rw [hy267]; exact H) | exact H
                  have Ny267 := Aside0.mk hy267
                  clear hy267
                  replace H := Option.bind_eq_some_iff.mp H
                  obtain ⟨⟨t270, t271⟩, A520, H⟩ := H
                  replace H : ((spec_l15PageText.f k3 s0_0 t271).bind fun bt272 => ((spec_l7Write.f k3 x223000_3 x223001_3 x223002_3 x223003_3 t270 bt272.1).bind fun bt274 => (spec_l15Disk.l1 k3 (wrap64 (x5_3 - 1)) s0_0 bt272.2 bt274.1 bt274.2.1 bt274.2.2.1 bt274.2.2.2.1))) = some (r1, r2, r3, r4, r5) := H
                  have A52 := Aside0.mk A520
                  clear A520
                  replace H := Option.bind_eq_some_iff.mp H
                  obtain ⟨⟨t272, t273⟩, A530, H⟩ := H
                  replace H : ((spec_l7Write.f k3 x223000_3 x223001_3 x223002_3 x223003_3 t270 t272).bind fun bt274 => (spec_l15Disk.l1 k3 (wrap64 (x5_3 - 1)) s0_0 t273 bt274.1 bt274.2.1 bt274.2.2.1 bt274.2.2.2.1)) = some (r1, r2, r3, r4, r5) := H
                  have A53 := Aside0.mk A530
                  clear A530
                  replace H := Option.bind_eq_some_iff.mp H
                  obtain ⟨⟨t274, t277, t280, t281, t282⟩, A540, H⟩ := H
                  replace H : (spec_l15Disk.l1 k3 (wrap64 (x5_3 - 1)) s0_0 t273 t274 t277 t280 t281) = some (r1, r2, r3, r4, r5) := H
                  have A54 := Aside0.mk A540
                  clear A540
                  have H' := Aside0.mk H
                  clear H
                  try go_wp2
                  have n0_ := Aside0.mk (Kd.qW HO_223000.out)
                  have n1_ := Aside0.mk (Kd.qW HO_223001.out)
                  have n2_ := Aside0.mk (qI BK213.out)
                  have n3_ := Aside0.mk (qI BK222.out)
                  have n4_ := Aside0.mk (IsS83.drew HI0.out)
                  have n5_ := Aside0.mk (qO HK.out)
                  have n6_ := Aside0.mk (qE HB.out)
                  clear HO_223000
                  clear HO_223001
                  clear BK213
                  clear BK222
                  clear HI0
                  clear HK
                  clear HB
                  have HO_223000 := n0_
                  have HO_223001 := n1_
                  have BK213 := n2_
                  have BK222 := n3_
                  have HI0 := n4_
                  have HK := n5_
                  have HB := n6_
                  clear n0_ n1_ n2_ n3_ n4_ n5_ n6_
                  refine start_ (n := 13) (S := fun w' => w'.cell? ⟨gb222, 0, none⟩ = some (u223000) ∧ w'.cell? ⟨gb222, 1, none⟩ = some (u223001) ∧ w'.cell? ⟨gb222, 2, none⟩ = some (.int .i64 x223002_3) ∧ w'.cell? ⟨gb222, 3, none⟩ = some (.int .i64 x223003_3)) (ds := [12]) #[false, false, false, false, false, false, false, false, false, false, false, false, false] (by kernel_rfl) rfl rfl ⟨(qA BK222.out 0).trans rfl, (qA BK222.out 1).trans rfl, (qA BK222.out 2).trans rfl, (qA BK222.out 3).trans rfl⟩ (fun hHeld => ?_); refine with_tabW spec_l15Disk.tab11 spec_l15Disk.bits11 (fun HT_ HW_ => ?_)
                  generalize wr.drew = w55 at HO_223000 HO_223001 BK213 BK222 HI0 HK HB hHeld ⊢
                  refine pure_ (i := 1) (N := some 38) (v := ?_) (a' := ?_) #[false, true, false, false, false, false, false, false, false, false, false, false, false] rfl rfl (zK HT_.out (by kernel_rfl)) (fun _ _ _ h => h) (Or.inl ⟨by rfl, ?_⟩) ?_ ?_
                  rotate_left
                  · intro w'
                    go_simp
                    with_reducible rfl
                  rotate_left
                  · simp only [Act.put, List.setIfInBounds_toArray, List.set_cons_zero, List.set_cons_succ, i64_w, i32_w]
                    rfl
                  refine pure_ (i := 2) (N := some 39) (v := ?_) (a' := ?_) #[false, true, true, false, false, false, false, false, false, false, false, false, false] rfl rfl (zK HT_.out (by kernel_rfl)) (fun _ _ _ h => h) (Or.inl ⟨by rfl, ?_⟩) ?_ ?_
                  rotate_left
                  · intro w'
                    go_simp
                    with_reducible rfl
                  rotate_left
                  · simp only [Act.put, List.setIfInBounds_toArray, List.set_cons_zero, List.set_cons_succ, i64_w, i32_w]
                    rfl
                  refine pure_ (i := 6) (N := some 43) (v := ?_) (a' := ?_) #[false, true, true, false, false, false, true, false, false, false, false, false, false] rfl rfl (zK HT_.out (by kernel_rfl)) (fun _ _ _ h => h) (Or.inl ⟨by rfl, ?_⟩) ?_ ?_
                  rotate_left
                  · intro w'
                    go_simp
                    with_reducible rfl
                  rotate_left
                  · simp only [Act.put, List.setIfInBounds_toArray, List.set_cons_zero, List.set_cons_succ, i64_w, i32_w]
                    rfl
                  refine take_ (i := 0) (N := some 37) (v := ?_) (a' := ?_) #[true, true, true, false, false, false, true, false, false, false, false, false, false] rfl rfl (zN HT_.out HW_.out (by kernel_rfl)) (fun _ _ _ h => h) (Or.inl ⟨by rfl, ?_⟩) hHeld ?_ ?_
                  rotate_left
                  · rintro w' ⟨s0, s1, s2, s3⟩
                    go_simp
                    with_reducible rfl
                  rotate_left
                  · simp only [Act.put, List.setIfInBounds_toArray, List.set_cons_zero, List.set_cons_succ, i64_w, i32_w]
                    rfl
                  refine one_ (i := 3) (N := some 40) #[true, true, true, true, false, false, true, false, false, false, false, false, false] rfl rfl (zR HT_.out (by kernel_rfl)) (by decide) (fun K hK => ?_)
                  refine goes_ Try.func34 (by kernel_rfl) rfl #[.pointer (some ⟨g, 0, none⟩), .int .i64 42] (by rfl) rfl rfl (by (try simp only [List.map_toArray, List.map_cons, List.map_nil]); first | done | rfl | (simp only [List.length_drop, List.length_take]; rfl)) ?_
                  with_reducible refine (spec_l1Rd_pick.calls k3 g s0_0 x1001_3 42 t265 t266 w0 _ ?side1 ?side2 A51.out).mono ?_
                  (case side1 => repeat (first | (with_reducible first | exact HI0.out | apply IsS83.alloc | apply IsS83.drewN | apply IsS83.drew | apply IsS83.set_1 | refine IsS83.far ?_ NB0_213.out _ | refine IsS83.far ?_ NB0_222.out _) | exact HI0.out))
                  (case side2 => repeat (first | (with_reducible first | exact HB.out | apply qF | apply qC | apply qE | refine qB ?_ (IsS83.ge HI0.out) | refine qB ?_ GE213.out | refine qB ?_ GE222.out) | exact HB.out))
                  rintro e w56 ⟨rfl, hi, hb, hk⟩
                  refine ⟨_, rfl, ?_⟩
                  have n0_ := Aside0.mk (Kd.qS (Kd.zM (IsS83.apart (show IsS83 w0 _ g s0_0 x1001_3 from by repeat (first | (with_reducible first | exact HI0.out | apply IsS83.alloc | apply IsS83.drewN | apply IsS83.drew | apply IsS83.set_1 | refine IsS83.far ?_ NB0_213.out _ | refine IsS83.far ?_ NB0_222.out _) | exact HI0.out)) (rw_ HO_223000.out) (by decide)) hk (fun _ h => h.2)) (fun _ h => h.1))
                  have n1_ := Aside0.mk (Kd.qS (Kd.zM (IsS83.apart (show IsS83 w0 _ g s0_0 x1001_3 from by repeat (first | (with_reducible first | exact HI0.out | apply IsS83.alloc | apply IsS83.drewN | apply IsS83.drew | apply IsS83.set_1 | refine IsS83.far ?_ NB0_213.out _ | refine IsS83.far ?_ NB0_222.out _) | exact HI0.out)) (rw_ HO_223001.out) (by decide)) hk (fun _ h => h.2)) (fun _ h => h.1))
                  have n2_ := Aside0.mk (KeepBut.blk hk (g' := gb213) (o := .cells #[.slice none 0 0, .slice none 0 0, .int .i64 0, .int .i64 0] 26 (0, 0)) (bw_ BK213.out) NB213_0.out (by simp))
                  have n3_ := Aside0.mk (KeepBut.blk hk (g' := gb222) (o := .cells #[u223000, u223001, .int .i64 x223002_3, .int .i64 x223003_3] 26 (0, 0)) (bw_ BK222.out) NB222_0.out (by simp))
                  have n4_ := Aside0.mk (KeepBut.trans (by repeat (first | (with_reducible first | exact HK.out | apply KeepBut.set_ | apply qK | apply qO | apply qL | refine qQ ?_ GW213.out _ | refine qQ ?_ GW222.out _) | exact HK.out)) hk (.inl rfl))
                  have n5_ := Aside0.mk (hb)
                  have n6_ := Aside0.mk (hi)
                  clear HO_223000
                  clear HO_223001
                  clear BK213
                  clear BK222
                  clear HK
                  clear HB
                  clear HI0
                  have HO_223000 := n0_
                  have HO_223001 := n1_
                  have BK213 := n2_
                  have BK222 := n3_
                  have HK := n4_
                  have HB := n5_
                  have HI0 := n6_
                  clear n0_ n1_ n2_ n3_ n4_ n5_ n6_
                  (try clear hb)
                  (try clear hb2)
                  (try clear hk)
                  (try clear hi)
                  refine hK.out _ _ ⟨(qA BK222.out 0).trans rfl, (qA BK222.out 1).trans rfl, (qA BK222.out 2).trans rfl, (qA BK222.out 3).trans rfl⟩ (fun hHeld => ?_)
                  clear hK K
                  refine norm_ (a' := ?_) ?_ ?_
                  rotate_left
                  · show Act.put _ (some 40) _ = _
                    simp only [Act.put, List.setIfInBounds_toArray, List.set_cons_zero, List.set_cons_succ, i64_w, i32_w]
                    rfl
                  refine one_ (i := 4) (N := some 41) #[true, true, true, true, true, false, true, false, false, false, false, false, false] rfl rfl (zR HT_.out (by kernel_rfl)) (by decide) (fun K hK => ?_)
                  refine Kd.R_lit_step (Kd.int .i64) _ 3 ?hg (N := 41) ?hd (xs := ([0, 1, 2, 22, t265] : List Int)) (inner := [.int .i64 0, .int .i64 1, .int .i64 2, .int .i64 22, .int .i64 t265]) (ok := fun _ => True) (okp := fun _ => True) ?hr ?hp (fun _ hk => hk) trivial (Below.refl _ _) (Nat.le_refl _) (by simp) ?_; (case hd => rfl); (case hg => rfl); (case hr => first | (go_simp; done) | (go_simp; rfl)); (case hp => exact (Reps.one (show Kd.M (Kd.int .i64) _ _ _ 0 [.int .i64 0] from rfl) (Reps.one (show Kd.M (Kd.int .i64) _ _ _ 1 [.int .i64 1] from rfl) (Reps.one (show Kd.M (Kd.int .i64) _ _ _ 2 [.int .i64 2] from rfl) (Reps.one (show Kd.M (Kd.int .i64) _ _ _ 22 [.int .i64 22] from rfl) (Reps.one (show Kd.M (Kd.int .i64) _ _ _ t265 [.int .i64 t265] from rfl) (Reps.none _ _)))))))
                  intro v268 w57 ho58 hb hg_ hnew_
                  clear hg_ hnew_
                  (first | rw [← Ny267.out] at ho58 | (simp only [Int.reduceToNat] at ho58; rw [← Ny267.out] at ho58))
                  have n0_ := Aside0.mk (Kd.qU (rw_ HO_223000.out) hb)
                  have n1_ := Aside0.mk (Kd.qU (rw_ HO_223001.out) hb)
                  have n2_ := Aside0.mk (Kd.zJ ho58 (zF (w := w) (g := g) (row := none) (by repeat (first | (with_reducible first | exact HK.out | apply KeepBut.set_ | apply qK | apply qO | apply qL | refine qQ ?_ GW213.out _ | refine qQ ?_ GW222.out _) | exact HK.out))))
                  have n3_ := Aside0.mk (qJ (g := gb213) (o := .cells #[.slice none 0 0, .slice none 0 0, .int .i64 0, .int .i64 0] 26 (0, 0)) (bw_ BK213.out) hb)
                  have n4_ := Aside0.mk (qJ (g := gb222) (o := .cells #[u223000, u223001, .int .i64 x223002_3, .int .i64 x223003_3] 26 (0, 0)) (bw_ BK222.out) hb)
                  have n5_ := Aside0.mk (IsS83.below (by repeat (first | (with_reducible first | exact HI0.out | apply IsS83.alloc | apply IsS83.drewN | apply IsS83.drew | apply IsS83.set_1 | refine IsS83.far ?_ NB0_213.out _ | refine IsS83.far ?_ NB0_222.out _) | exact HI0.out)) hb)
                  have n6_ := Aside0.mk (KeepBut.trans (by repeat (first | (with_reducible first | exact HK.out | apply KeepBut.set_ | apply qK | apply qO | apply qL | refine qQ ?_ GW213.out _ | refine qQ ?_ GW222.out _) | exact HK.out)) (KeepBut.of_below hb g none) (.inl rfl))
                  have n7_ := Aside0.mk (qN (by repeat (first | (with_reducible first | exact HB.out | apply qF | apply qC | apply qE | refine qB ?_ (IsS83.ge HI0.out) | refine qB ?_ GE213.out | refine qB ?_ GE222.out) | exact HB.out)) hb)
                  clear HO_223000
                  clear HO_223001
                  clear BK213
                  clear BK222
                  clear HI0
                  clear HK
                  clear HB
                  have HO_223000 := n0_
                  have HO_223001 := n1_
                  have HO269 := n2_
                  have BK213 := n3_
                  have BK222 := n4_
                  have HI0 := n5_
                  have HK := n6_
                  have HB := n7_
                  clear n0_ n1_ n2_ n3_ n4_ n5_ n6_ n7_
                  clear hb ho58
                  obtain ⟨Ao59, co59, eo59⟩ := Kd.zG HO269.out
                  (first | subst eo59 | (injection eo59 with f1_ f2_ f3_; have f4_ := f1_.symm; have f5_ := f3_.symm; clear f1_ f2_ f3_; subst f4_; subst f5_))
                  refine hK.out _ _ ⟨(qA BK222.out 0).trans rfl, (qA BK222.out 1).trans rfl, (qA BK222.out 2).trans rfl, (qA BK222.out 3).trans rfl⟩ (fun hHeld => ?_)
                  clear hK K
                  refine norm_ (a' := ?_) ?_ ?_
                  rotate_left
                  · show Act.put _ (some 41) _ = _
                    simp only [Act.put, List.setIfInBounds_toArray, List.set_cons_zero, List.set_cons_succ, i64_w, i32_w]
                    rfl
                  refine one_ (i := 5) (N := some 42) #[true, true, true, true, true, true, true, false, false, false, false, false, false] rfl rfl (zR HT_.out (by kernel_rfl)) (by decide) (fun K hK => ?_)
                  refine goes_ Try.func40 (by kernel_rfl) rfl #[.pointer (some ⟨g, 0, none⟩), .slice Ao59 y267.length co59] (by rfl) rfl rfl (by (try simp only [List.map_toArray, List.map_cons, List.map_nil]); first | done | rfl | (simp only [List.length_drop, List.length_take]; rfl)) ?_
                  with_reducible refine (spec_l1Rd_one.calls k3 g s0_0 t266 _ _ y267 t270 t271 w0 _ ?side1 ?side2 ?side3 ?side4 ?side5 A52.out).mono ?_
                  (case side1 => repeat (first | (with_reducible first | exact HI0.out | apply IsS83.alloc | apply IsS83.drewN | apply IsS83.drew | apply IsS83.set_1 | refine IsS83.far ?_ NB0_213.out _ | refine IsS83.far ?_ NB0_222.out _) | exact HI0.out))
                  (case side2 => repeat (first | (with_reducible first | exact HB.out | apply qF | apply qC | apply qE | refine qB ?_ (IsS83.ge HI0.out) | refine qB ?_ GE213.out | refine qB ?_ GE222.out) | exact HB.out))
                  (case side3 => repeat (first | exact (Kd.zA HO269.out).2.2 | (with_reducible refine Kd.zC ?_ _) | (with_reducible refine Kd.zD ?_ _) | (with_reducible refine Kd.zH ?_)))
                  (case side4 => exact (Kd.zA HO269.out).2.1)
                  (case side5 => exact far_slice (IsS83.own_ne HI0.out HO269.out (by decide)))
                  rintro e w60 ⟨rfl, hi, hb, hk⟩
                  refine ⟨_, rfl, ?_⟩
                  have n0_ := Aside0.mk (Kd.qS (Kd.zM (IsS83.apart (show IsS83 w0 _ g s0_0 t266 from by repeat (first | (with_reducible first | exact HI0.out | apply IsS83.alloc | apply IsS83.drewN | apply IsS83.drew | apply IsS83.set_1 | refine IsS83.far ?_ NB0_213.out _ | refine IsS83.far ?_ NB0_222.out _) | exact HI0.out)) (rw_ HO_223000.out) (by decide)) hk (fun _ h => h.2)) (fun _ h => h.1))
                  have n1_ := Aside0.mk (Kd.qS (Kd.zM (IsS83.apart (show IsS83 w0 _ g s0_0 t266 from by repeat (first | (with_reducible first | exact HI0.out | apply IsS83.alloc | apply IsS83.drewN | apply IsS83.drew | apply IsS83.set_1 | refine IsS83.far ?_ NB0_213.out _ | refine IsS83.far ?_ NB0_222.out _) | exact HI0.out)) (rw_ HO_223001.out) (by decide)) hk (fun _ h => h.2)) (fun _ h => h.1))
                  have n2_ := Aside0.mk (KeepBut.blk hk (g' := gb213) (o := .cells #[.slice none 0 0, .slice none 0 0, .int .i64 0, .int .i64 0] 26 (0, 0)) (bw_ BK213.out) NB213_0.out (by simp))
                  have n3_ := Aside0.mk (KeepBut.blk hk (g' := gb222) (o := .cells #[u223000, u223001, .int .i64 x223002_3, .int .i64 x223003_3] 26 (0, 0)) (bw_ BK222.out) NB222_0.out (by simp))
                  have n4_ := Aside0.mk (Kd.qS (Kd.zM (IsS83.apart (show IsS83 w0 _ g s0_0 t266 from by repeat (first | (with_reducible first | exact HI0.out | apply IsS83.alloc | apply IsS83.drewN | apply IsS83.drew | apply IsS83.set_1 | refine IsS83.far ?_ NB0_213.out _ | refine IsS83.far ?_ NB0_222.out _) | exact HI0.out)) (rw_ HO269.out) (by decide)) hk (fun _ h => h.2)) (fun _ h => h.1))
                  have n5_ := Aside0.mk (KeepBut.trans (by repeat (first | (with_reducible first | exact HK.out | apply KeepBut.set_ | apply qK | apply qO | apply qL | refine qQ ?_ GW213.out _ | refine qQ ?_ GW222.out _) | exact HK.out)) hk (.inl rfl))
                  have n6_ := Aside0.mk (hb)
                  have n7_ := Aside0.mk (hi)
                  clear HO_223000
                  clear HO_223001
                  clear BK213
                  clear BK222
                  clear HO269
                  clear HK
                  clear HB
                  clear HI0
                  have HO_223000 := n0_
                  have HO_223001 := n1_
                  have BK213 := n2_
                  have BK222 := n3_
                  have HO269 := n4_
                  have HK := n5_
                  have HB := n6_
                  have HI0 := n7_
                  clear n0_ n1_ n2_ n3_ n4_ n5_ n6_ n7_
                  (try clear hb)
                  (try clear hb2)
                  (try clear hk)
                  (try clear hi)
                  refine hK.out _ _ ⟨(qA BK222.out 0).trans rfl, (qA BK222.out 1).trans rfl, (qA BK222.out 2).trans rfl, (qA BK222.out 3).trans rfl⟩ (fun hHeld => ?_)
                  clear hK K
                  refine norm_ (a' := ?_) ?_ ?_
                  rotate_left
                  · show Act.put _ (some 42) _ = _
                    simp only [Act.put, List.setIfInBounds_toArray, List.set_cons_zero, List.set_cons_succ, i64_w, i32_w]
                    rfl
                  refine one_ (i := 7) (N := some 44) #[true, true, true, true, true, true, true, true, false, false, false, false, false] rfl rfl (zR HT_.out (by kernel_rfl)) (by decide) (fun K hK => ?_)
                  refine goes_ Try.func42 (by kernel_rfl) rfl #[.pointer (some ⟨g, 0, none⟩)] (by rfl) rfl rfl (by (try simp only [List.map_toArray, List.map_cons, List.map_nil]); first | done | rfl | (simp only [List.length_drop, List.length_take]; rfl)) ?_
                  with_reducible refine (spec_l15PageText.calls k3 g s0_0 t271 t272 t273 w0 _ ?side1 ?side2 A53.out).mono ?_
                  (case side1 => repeat (first | (with_reducible first | exact HI0.out | apply IsS83.alloc | apply IsS83.drewN | apply IsS83.drew | apply IsS83.set_1 | refine IsS83.far ?_ NB0_213.out _ | refine IsS83.far ?_ NB0_222.out _) | exact HI0.out))
                  (case side2 => repeat (first | (with_reducible first | exact HB.out | apply qF | apply qC | apply qE | refine qB ?_ (IsS83.ge HI0.out) | refine qB ?_ GE213.out | refine qB ?_ GE222.out) | exact HB.out))
                  rintro e w61 ⟨rfl, hi, hb, hk⟩
                  refine ⟨_, rfl, ?_⟩
                  have n0_ := Aside0.mk (Kd.qS (Kd.zM (IsS83.apart (show IsS83 w0 _ g s0_0 t271 from by repeat (first | (with_reducible first | exact HI0.out | apply IsS83.alloc | apply IsS83.drewN | apply IsS83.drew | apply IsS83.set_1 | refine IsS83.far ?_ NB0_213.out _ | refine IsS83.far ?_ NB0_222.out _) | exact HI0.out)) (rw_ HO_223000.out) (by decide)) hk (fun _ h => h.2)) (fun _ h => h.1))
                  have n1_ := Aside0.mk (Kd.qS (Kd.zM (IsS83.apart (show IsS83 w0 _ g s0_0 t271 from by repeat (first | (with_reducible first | exact HI0.out | apply IsS83.alloc | apply IsS83.drewN | apply IsS83.drew | apply IsS83.set_1 | refine IsS83.far ?_ NB0_213.out _ | refine IsS83.far ?_ NB0_222.out _) | exact HI0.out)) (rw_ HO_223001.out) (by decide)) hk (fun _ h => h.2)) (fun _ h => h.1))
                  have n2_ := Aside0.mk (KeepBut.blk hk (g' := gb213) (o := .cells #[.slice none 0 0, .slice none 0 0, .int .i64 0, .int .i64 0] 26 (0, 0)) (bw_ BK213.out) NB213_0.out (by simp))
                  have n3_ := Aside0.mk (KeepBut.blk hk (g' := gb222) (o := .cells #[u223000, u223001, .int .i64 x223002_3, .int .i64 x223003_3] 26 (0, 0)) (bw_ BK222.out) NB222_0.out (by simp))
                  have n4_ := Aside0.mk (Kd.qS (Kd.zM (IsS83.apart (show IsS83 w0 _ g s0_0 t271 from by repeat (first | (with_reducible first | exact HI0.out | apply IsS83.alloc | apply IsS83.drewN | apply IsS83.drew | apply IsS83.set_1 | refine IsS83.far ?_ NB0_213.out _ | refine IsS83.far ?_ NB0_222.out _) | exact HI0.out)) (rw_ HO269.out) (by decide)) hk (fun _ h => h.2)) (fun _ h => h.1))
                  have n5_ := Aside0.mk (KeepBut.trans (by repeat (first | (with_reducible first | exact HK.out | apply KeepBut.set_ | apply qK | apply qO | apply qL | refine qQ ?_ GW213.out _ | refine qQ ?_ GW222.out _) | exact HK.out)) hk (.inl rfl))
                  have n6_ := Aside0.mk (hb)
                  have n7_ := Aside0.mk (hi)
                  clear HO_223000
                  clear HO_223001
                  clear BK213
                  clear BK222
                  clear HO269
                  clear HK
                  clear HB
                  clear HI0
                  have HO_223000 := n0_
                  have HO_223001 := n1_
                  have BK213 := n2_
                  have BK222 := n3_
                  have HO269 := n4_
                  have HK := n5_
                  have HB := n6_
                  have HI0 := n7_
                  clear n0_ n1_ n2_ n3_ n4_ n5_ n6_ n7_
                  (try clear hb)
                  (try clear hb2)
                  (try clear hk)
                  (try clear hi)
                  obtain ⟨Ao62, co62, eo62⟩ := Kd.zG HO_223000.out
                  (first | subst eo62 | (injection eo62 with f1_ f2_ f3_; have f4_ := f1_.symm; have f5_ := f3_.symm; clear f1_ f2_ f3_; subst f4_; subst f5_))
                  obtain ⟨Ao63, co63, eo63⟩ := Kd.zG HO_223001.out
                  (first | subst eo63 | (injection eo63 with f1_ f2_ f3_; have f4_ := f1_.symm; have f5_ := f3_.symm; clear f1_ f2_ f3_; subst f4_; subst f5_))
                  refine hK.out _ _ ⟨(qA BK222.out 0).trans rfl, (qA BK222.out 1).trans rfl, (qA BK222.out 2).trans rfl, (qA BK222.out 3).trans rfl⟩ (fun hHeld => ?_)
                  clear hK K
                  refine norm_ (a' := ?_) ?_ ?_
                  rotate_left
                  · show Act.put _ (some 44) _ = _
                    simp only [Act.put, List.setIfInBounds_toArray, List.set_cons_zero, List.set_cons_succ, i64_w, i32_w]
                    rfl
                  refine one_ (i := 8) (N := some 45) #[true, true, true, true, true, true, true, true, true, false, false, false, false] rfl rfl (zR HT_.out (by kernel_rfl)) (by decide) (fun K hK => ?_)
                  refine goes_ Try.func43 (by kernel_rfl) rfl #[.agg #[.slice Ao62 x223000_3.length co62, .slice Ao63 x223001_3.length co63, .int .i64 x223002_3, .int .i64 x223003_3], .int .i64 t270, .string t272] (by rfl) rfl rfl (by (try simp only [List.map_toArray, List.map_cons, List.map_nil]); first | done | rfl | (simp only [List.length_drop, List.length_take]; rfl)) ?_
                  with_reducible refine (spec_l7Write.calls k3 _ _ x223000_3 _ _ x223001_3 x223002_3 x223003_3 t270 t272 t274 t277 t280 t281 t282 _ ?side1 ?side2 ?side3 ?side4 A54.out).mono ?_
                  (case side1 => repeat (first | exact (Kd.zA HO_223000.out).2.2 | (with_reducible refine Kd.zC ?_ _) | (with_reducible refine Kd.zD ?_ _) | (with_reducible refine Kd.zH ?_)))
                  (case side2 => exact (Kd.zA HO_223000.out).2.1)
                  (case side3 => repeat (first | exact (Kd.zA HO_223001.out).2.2 | (with_reducible refine Kd.zC ?_ _) | (with_reducible refine Kd.zD ?_ _) | (with_reducible refine Kd.zH ?_)))
                  (case side4 => exact (Kd.zA HO_223001.out).2.1)
                  rintro e w64 ⟨v275, v278, rfl, ho0, ho1, hb⟩
                  refine ⟨_, rfl, ?_⟩
                  have n0_ := Aside0.mk (Kd.zV (rw_ HO_223000.out) (Kd.zY ho0) hb)
                  have n1_ := Aside0.mk (Kd.zV (rw_ HO_223001.out) (Kd.zY ho1) hb)
                  have n2_ := Aside0.mk (Kd.qU (rw_ HO269.out) hb)
                  have n3_ := Aside0.mk (Kd.zJ (Kd.zZ ho0 (Kd.R_lt (rw_ HO_223000.out))) (zF (w := w) (g := g) (row := none) (by repeat (first | (with_reducible first | exact HK.out | apply KeepBut.set_ | apply qK | apply qO | apply qL | refine qQ ?_ GW213.out _ | refine qQ ?_ GW222.out _) | exact HK.out))))
                  have n4_ := Aside0.mk (Kd.zJ (Kd.zZ ho1 (Kd.R_lt (rw_ HO_223001.out))) (zF (w := w) (g := g) (row := none) (by repeat (first | (with_reducible first | exact HK.out | apply KeepBut.set_ | apply qK | apply qO | apply qL | refine qQ ?_ GW213.out _ | refine qQ ?_ GW222.out _) | exact HK.out))))
                  have n5_ := Aside0.mk (qJ (g := gb213) (o := .cells #[.slice none 0 0, .slice none 0 0, .int .i64 0, .int .i64 0] 26 (0, 0)) (bw_ BK213.out) hb)
                  have n6_ := Aside0.mk (qJ (g := gb222) (o := .cells #[.slice Ao62 x223000_3.length co62, .slice Ao63 x223001_3.length co63, .int .i64 x223002_3, .int .i64 x223003_3] 26 (0, 0)) (bw_ BK222.out) hb)
                  have n7_ := Aside0.mk (IsS83.below (by repeat (first | (with_reducible first | exact HI0.out | apply IsS83.alloc | apply IsS83.drewN | apply IsS83.drew | apply IsS83.set_1 | refine IsS83.far ?_ NB0_213.out _ | refine IsS83.far ?_ NB0_222.out _) | exact HI0.out)) hb)
                  have n8_ := Aside0.mk (KeepBut.trans (by repeat (first | (with_reducible first | exact HK.out | apply KeepBut.set_ | apply qK | apply qO | apply qL | refine qQ ?_ GW213.out _ | refine qQ ?_ GW222.out _) | exact HK.out)) (KeepBut.of_below hb g none) (.inl rfl))
                  have n9_ := Aside0.mk (qN (by repeat (first | (with_reducible first | exact HB.out | apply qF | apply qC | apply qE | refine qB ?_ (IsS83.ge HI0.out) | refine qB ?_ GE213.out | refine qB ?_ GE222.out) | exact HB.out)) hb)
                  clear HO_223000
                  clear HO_223001
                  clear HO269
                  clear BK213
                  clear BK222
                  clear HI0
                  clear HK
                  clear HB
                  have HO_223000 := n0_
                  have HO_223001 := n1_
                  have HO269 := n2_
                  have HO276 := n3_
                  have HO279 := n4_
                  have BK213 := n5_
                  have BK222 := n6_
                  have HI0 := n7_
                  have HK := n8_
                  have HB := n9_
                  clear n0_ n1_ n2_ n3_ n4_ n5_ n6_ n7_ n8_ n9_
                  (try clear hb)
                  (try clear hb2)
                  (try clear hk)
                  (try clear hi)
                  (try clear ho0)
                  (try clear ho1)
                  obtain ⟨Ao65, co65, eo65⟩ := Kd.zG HO276.out
                  (first | subst eo65 | (injection eo65 with f1_ f2_ f3_; have f4_ := f1_.symm; have f5_ := f3_.symm; clear f1_ f2_ f3_; subst f4_; subst f5_))
                  obtain ⟨Ao67, co67, eo67⟩ := Kd.zG HO279.out
                  (first | subst eo67 | (injection eo67 with f1_ f2_ f3_; have f4_ := f1_.symm; have f5_ := f3_.symm; clear f1_ f2_ f3_; subst f4_; subst f5_))
                  refine hK.out _ _ ⟨(qA BK222.out 0).trans rfl, (qA BK222.out 1).trans rfl, (qA BK222.out 2).trans rfl, (qA BK222.out 3).trans rfl⟩ (fun hHeld => ?_)
                  clear hK K
                  refine norm_ (a' := ?_) ?_ ?_
                  rotate_left
                  · show Act.put _ (some 45) _ = _
                    simp only [Act.put, List.setIfInBounds_toArray, List.set_cons_zero, List.set_cons_succ, i64_w, i32_w]
                    rfl
                  refine pure_ (i := 9) (N := some 36) (v := ?_) (a' := ?_) #[true, true, true, true, true, true, true, true, true, true, false, false, false] rfl rfl (zK HT_.out (by kernel_rfl)) (fun _ _ _ h => h) (Or.inl ⟨by rfl, ?_⟩) ?_ ?_
                  rotate_left
                  · intro w'
                    go_simp
                    with_reducible rfl
                  rotate_left
                  · simp only [Act.put, List.setIfInBounds_toArray, List.set_cons_zero, List.set_cons_succ, i64_w, i32_w]
                    rfl
                  refine pure_ (i := 10) (N := some 46) (v := ?_) (a' := ?_) #[true, true, true, true, true, true, true, true, true, true, true, false, false] rfl rfl (zK HT_.out (by kernel_rfl)) (fun _ _ _ h => h) (Or.inl ⟨by rfl, ?_⟩) ?_ ?_
                  rotate_left
                  · intro w'
                    go_simp
                    with_reducible rfl
                  rotate_left
                  · simp only [Act.put, List.setIfInBounds_toArray, List.set_cons_zero, List.set_cons_succ, i64_w, i32_w]
                    rfl
                  refine pure_ (i := 11) (N := some 47) (v := ?_) (a' := ?_) #[true, true, true, true, true, true, true, true, true, true, true, true, false] rfl rfl (zK HT_.out (by kernel_rfl)) (fun _ _ _ h => h) (Or.inl ⟨by rfl, ?_⟩) ?_ ?_
                  rotate_left
                  · intro w'
                    go_simp
                    with_reducible rfl
                  rotate_left
                  · simp only [Act.put, List.setIfInBounds_toArray, List.set_cons_zero, List.set_cons_succ, i64_w, i32_w]
                    rfl
                  refine last_ (i := 12) (N := none) #[true, true, true, true, true, true, true, true, true, true, true, true, true] rfl rfl (zR HT_.out (by kernel_rfl)) (by decide) (fun K hK => ?_)
                  have hs66 : w64.cell? ⟨gb222, 0, none⟩ = some (.slice Ao62 x223000_3.length co62) := (qA BK222.out 0).trans rfl
                  have hfs66 := qD BK222.out 0
                  have hns66_0 := NB213_222.out
                  have hms66_0 := NB222_213.out
                  have hs68 : w64.cell? ⟨gb222, 1, none⟩ = some (.slice Ao63 x223001_3.length co63) := (qA BK222.out 1).trans rfl
                  have hfs68 := qD BK222.out 1
                  have hns68_0 := NB213_222.out
                  have hms68_0 := NB222_213.out
                  have hs69 : w64.cell? ⟨gb222, 2, none⟩ = some (.int .i64 x223002_3) := (qA BK222.out 2).trans rfl
                  have hfs69 := qD BK222.out 2
                  have hns69_0 := NB213_222.out
                  have hms69_0 := NB222_213.out
                  have hs70 : w64.cell? ⟨gb222, 3, none⟩ = some (.int .i64 x223003_3) := (qA BK222.out 3).trans rfl
                  have hfs70 := qD BK222.out 3
                  have hns70_0 := NB213_222.out
                  have hms70_0 := NB222_213.out
                  refine skip_ (w1 := ?_) (by rfl) rfl ?_ ?_
                  rotate_left
                  · go_simp
                    rfl
                  refine hK.out _ _ ?_
                  clear hK K
                  refine done_ (done_of HT_.out (by kernel_rfl)) ?_
                  try go_wp2
                  go_roundg k3
                  case measure => have := HK1.out; have := HJ34.out; have := HK3.out; omega
                  case rel => exact ⟨(wrap64 (x5_3 - 1)), (t273), (t274), (t277), (t280), (t281), (.slice Ao65 t274.length co65), (.slice Ao67 t277.length co67), (by first | rfl | (simp; done) | (simp [*]; done)), H', ⟨by have := HK1.out; have := HJ34.out; have := HK3.out; omega⟩, ⟨by (with_reducible repeat (first | apply Kd.qX | apply Kd.qV | apply Kd.qW)); exact Kd.qS (Kd.R_far (p := ⟨gb222, 3, none⟩) (Kd.R_far (p := ⟨gb222, 2, none⟩) (Kd.R_far (p := ⟨gb222, 1, none⟩) (Kd.R_far (p := ⟨gb222, 0, none⟩) (Kd.qY HO276.out BK222.out (by decide)) (fun _ hk => hk.2) (.slice Ao65 t274.length co65)) (fun _ hk => hk.2) (.slice Ao67 t277.length co67)) (fun _ hk => hk.2) (.int .i64 t280)) (fun _ hk => hk.2) (.int .i64 t281)) (fun _ hk => trivial)⟩, ⟨by (with_reducible repeat (first | apply Kd.qX | apply Kd.qV | apply Kd.qW)); exact Kd.qS (Kd.R_far (p := ⟨gb222, 3, none⟩) (Kd.R_far (p := ⟨gb222, 2, none⟩) (Kd.R_far (p := ⟨gb222, 1, none⟩) (Kd.R_far (p := ⟨gb222, 0, none⟩) (Kd.qY HO279.out BK222.out (by decide)) (fun _ hk => hk.2) (.slice Ao65 t274.length co65)) (fun _ hk => hk.2) (.slice Ao67 t277.length co67)) (fun _ hk => hk.2) (.int .i64 t280)) (fun _ hk => hk.2) (.int .i64 t281)) (fun _ hk => trivial)⟩, ⟨by (with_reducible repeat (first | refine qH ?_ _ | refine qI ?_ | refine qG ?_ _)); refine qR ?_ NB213_222.out _; (with_reducible repeat (first | refine qH ?_ _ | refine qI ?_ | refine qG ?_ _)); refine qR ?_ NB213_222.out _; (with_reducible repeat (first | refine qH ?_ _ | refine qI ?_ | refine qG ?_ _)); refine qR ?_ NB213_222.out _; (with_reducible repeat (first | refine qH ?_ _ | refine qI ?_ | refine qG ?_ _)); refine qR ?_ NB213_222.out _; (with_reducible repeat (first | refine qH ?_ _ | refine qI ?_ | refine qG ?_ _)); exact BK213.out⟩, ⟨by (with_reducible repeat (first | refine qH ?_ _ | refine qI ?_ | refine qG ?_ _)); refine qP (cs := #[.slice Ao65 t274.length co65, .slice Ao67 t277.length co67, .int .i64 t280, .int .i64 x223003_3]) ?_ 3 _ rfl; (with_reducible repeat (first | refine qH ?_ _ | refine qI ?_ | refine qG ?_ _)); refine qP (cs := #[.slice Ao65 t274.length co65, .slice Ao67 t277.length co67, .int .i64 x223002_3, .int .i64 x223003_3]) ?_ 2 _ rfl; (with_reducible repeat (first | refine qH ?_ _ | refine qI ?_ | refine qG ?_ _)); refine qP (cs := #[.slice Ao65 t274.length co65, .slice Ao63 x223001_3.length co63, .int .i64 x223002_3, .int .i64 x223003_3]) ?_ 1 _ rfl; (with_reducible repeat (first | refine qH ?_ _ | refine qI ?_ | refine qG ?_ _)); refine qP (cs := #[.slice Ao62 x223000_3.length co62, .slice Ao63 x223001_3.length co63, .int .i64 x223002_3, .int .i64 x223003_3]) ?_ 0 _ rfl; (with_reducible repeat (first | refine qH ?_ _ | refine qI ?_ | refine qG ?_ _)); exact BK222.out⟩, ⟨by repeat (first | (with_reducible first | exact HI0.out | apply IsS83.alloc | apply IsS83.drewN | apply IsS83.drew | apply IsS83.set_1 | refine IsS83.far ?_ NB0_213.out _ | refine IsS83.far ?_ NB0_222.out _) | exact HI0.out)⟩, ⟨by repeat (first | (with_reducible first | exact HK.out | apply KeepBut.set_ | apply qK | apply qO | apply qL | refine qQ ?_ GW213.out _ | refine qQ ?_ GW222.out _) | exact HK.out)⟩, ⟨by repeat (first | (with_reducible first | exact HB.out | apply qF | apply qC | apply qE | refine qB ?_ (IsS83.ge HI0.out) | refine qB ?_ GE213.out | refine qB ?_ GE222.out) | exact HB.out)⟩⟩
                · rw [if_neg c50] at H
                  have c50b0 : decide (0 < x5_3) = false := decide_eq_false c50
                  clear c50
                  obtain ⟨y255, hy255⟩ : ∃ y_ : List Int, y_ = (([(-1), (-1), (-1), 0, 1, 3] : List Int)) := ⟨_, rfl⟩
                  replace H : ((spec_l1Rd_one.f k3 s0_0 x1001_3 y255).bind fun bt258 => ((spec_l1Rd_one.f k3 s0_0 bt258.2 (([(-1), (-1), (-1), 0, 1, 2] : List Int))).bind fun bt263 => (some (x223000_3, x223001_3, bt258.1, bt263.1, bt263.2)))) = some (r1, r2, r3, r4, r5) := by first | (rw [hy255]; with_reducible exact H) | (have H2_ := (Option.bind_some _ _).symm.trans H; rw [hy255]; with_reducible exact H2_) | (have H2_ := (Option.bind_some _ _).symm.trans H; with_reducible exact H2_) | with_reducible exact H | (rw [hy255]; exact H) | exact H
                  have Ny255 := Aside0.mk hy255
                  clear hy255
                  replace H := Option.bind_eq_some_iff.mp H
                  obtain ⟨⟨t258, t259⟩, A710, H⟩ := H
                  replace H : ((spec_l1Rd_one.f k3 s0_0 t259 (([(-1), (-1), (-1), 0, 1, 2] : List Int))).bind fun bt263 => (some (x223000_3, x223001_3, t258, bt263.1, bt263.2))) = some (r1, r2, r3, r4, r5) := H
                  have A71 := Aside0.mk A710
                  clear A710
                  obtain ⟨y260, hy260⟩ : ∃ y_ : List Int, y_ = (([(-1), (-1), (-1), 0, 1, 2] : List Int)) := ⟨_, rfl⟩
                  replace H : ((spec_l1Rd_one.f k3 s0_0 t259 y260).bind fun bt263 => (some (x223000_3, x223001_3, t258, bt263.1, bt263.2))) = some (r1, r2, r3, r4, r5) := by first | (rw [hy260]; with_reducible exact H) | (have H2_ := (Option.bind_some _ _).symm.trans H; rw [hy260]; with_reducible exact H2_) | (have H2_ := (Option.bind_some _ _).symm.trans H; with_reducible exact H2_) | with_reducible exact H | (rw [hy260]; exact H) | exact H
                  have Ny260 := Aside0.mk hy260
                  clear hy260
                  replace H := Option.bind_eq_some_iff.mp H
                  obtain ⟨⟨t263, t264⟩, A720, H⟩ := H
                  replace H : (some (x223000_3, x223001_3, t258, t263, t264)) = some (r1, r2, r3, r4, r5) := H
                  have A72 := Aside0.mk A720
                  clear A720
                  simp only [Option.some.injEq, Prod.mk.injEq] at H
                  obtain ⟨rfl, rfl, rfl, rfl, rfl⟩ := H
                  go_wp2_with (first | ((with_reducible refine zB (N := 49) rfl ?_); refine Kd.R_lit (Kd.int .i64) _ 3 ?hg (N := 49) ?hd (xs := ([(-1), (-1), (-1), 0, 1, 3] : List Int)) (inner := [.int .i64 (-1), .int .i64 (-1), .int .i64 (-1), .int .i64 0, .int .i64 1, .int .i64 3]) (ok := fun _ => True) (okp := fun _ => True) ?hr ?hp (fun _ hk => hk) trivial (Below.refl _ _) (Nat.le_refl _) (by simp) ?_; (case hd => rfl); (case hg => rfl); (case hr => first | (go_simp; done) | (go_simp; rfl)); (case hp => exact (Reps.one (show Kd.M (Kd.int .i64) _ _ _ (-1) [.int .i64 (-1)] from rfl) (Reps.one (show Kd.M (Kd.int .i64) _ _ _ (-1) [.int .i64 (-1)] from rfl) (Reps.one (show Kd.M (Kd.int .i64) _ _ _ (-1) [.int .i64 (-1)] from rfl) (Reps.one (show Kd.M (Kd.int .i64) _ _ _ 0 [.int .i64 0] from rfl) (Reps.one (show Kd.M (Kd.int .i64) _ _ _ 1 [.int .i64 1] from rfl) (Reps.one (show Kd.M (Kd.int .i64) _ _ _ 3 [.int .i64 3] from rfl) (Reps.none _ _)))))))); intro v256 w73 ho74 hb hg_ hnew_; clear hg_ hnew_; (first | rw [← Ny255.out] at ho74 | (simp only [Int.reduceToNat] at ho74; rw [← Ny255.out] at ho74)); have n0_ := Aside0.mk (Kd.qU (rw_ HO_223000.out) hb); have n1_ := Aside0.mk (Kd.qU (rw_ HO_223001.out) hb); have n2_ := Aside0.mk (Kd.zJ ho74 (zF (w := w) (g := g) (row := none) (by repeat (first | (with_reducible first | exact HK.out | apply KeepBut.set_ | apply qK | apply qO | apply qL | refine qQ ?_ GW213.out _ | refine qQ ?_ GW222.out _) | exact HK.out)))); have n3_ := Aside0.mk (qJ (g := gb213) (o := .cells #[.slice none 0 0, .slice none 0 0, .int .i64 0, .int .i64 0] 26 (0, 0)) (bw_ BK213.out) hb); have n4_ := Aside0.mk (qJ (g := gb222) (o := .cells #[u223000, u223001, .int .i64 x223002_3, .int .i64 x223003_3] 26 (0, 0)) (bw_ BK222.out) hb); have n5_ := Aside0.mk (IsS83.below (by repeat (first | (with_reducible first | exact HI0.out | apply IsS83.alloc | apply IsS83.drewN | apply IsS83.drew | apply IsS83.set_1 | refine IsS83.far ?_ NB0_213.out _ | refine IsS83.far ?_ NB0_222.out _) | exact HI0.out)) hb); have n6_ := Aside0.mk (KeepBut.trans (by repeat (first | (with_reducible first | exact HK.out | apply KeepBut.set_ | apply qK | apply qO | apply qL | refine qQ ?_ GW213.out _ | refine qQ ?_ GW222.out _) | exact HK.out)) (KeepBut.of_below hb g none) (.inl rfl)); have n7_ := Aside0.mk (qN (by repeat (first | (with_reducible first | exact HB.out | apply qF | apply qC | apply qE | refine qB ?_ (IsS83.ge HI0.out) | refine qB ?_ GE213.out | refine qB ?_ GE222.out) | exact HB.out)) hb); clear HO_223000; clear HO_223001; clear BK213; clear BK222; clear HI0; clear HK; clear HB; have HO_223000 := n0_; have HO_223001 := n1_; have HO257 := n2_; have BK213 := n3_; have BK222 := n4_; have HI0 := n5_; have HK := n6_; have HB := n7_; clear n0_ n1_ n2_ n3_ n4_ n5_ n6_ n7_; clear hb ho74; obtain ⟨Ao75, co75, eo75⟩ := Kd.zG HO257.out; subst eo75) | ((with_reducible refine qT (f := 40) rfl ?_); refine zL (some 50) rfl rfl Try.func40 (by kernel_rfl) rfl #[.pointer (some ⟨g, 0, none⟩), .slice Ao75 y255.length co75] rfl (by (try simp only [List.map_toArray, List.map_cons, List.map_nil]); first | done | rfl | (simp only [List.length_drop, List.length_take]; rfl)) ?_; (with_reducible refine (spec_l1Rd_one.calls k3 g s0_0 x1001_3 _ _ y255 t258 t259 w0 _ ?side1 ?side2 ?side3 ?side4 ?side5 A71.out).mono ?_); (case side1 => repeat (first | (with_reducible first | exact HI0.out | apply IsS83.alloc | apply IsS83.drewN | apply IsS83.drew | apply IsS83.set_1 | refine IsS83.far ?_ NB0_213.out _ | refine IsS83.far ?_ NB0_222.out _) | exact HI0.out)); (case side2 => repeat (first | (with_reducible first | exact HB.out | apply qF | apply qC | apply qE | refine qB ?_ (IsS83.ge HI0.out) | refine qB ?_ GE213.out | refine qB ?_ GE222.out) | exact HB.out)); (case side3 => repeat (first | exact (Kd.zA HO257.out).2.2 | (with_reducible refine Kd.zC ?_ _) | (with_reducible refine Kd.zD ?_ _) | (with_reducible refine Kd.zH ?_))); (case side4 => exact (Kd.zA HO257.out).2.1); (case side5 => exact far_slice (IsS83.own_ne HI0.out HO257.out (by decide))); rintro e w76 ⟨rfl, hi, hb, hk⟩; refine ⟨_, rfl, ?_⟩; have n0_ := Aside0.mk (Kd.qS (Kd.zM (IsS83.apart (show IsS83 w0 _ g s0_0 x1001_3 from by repeat (first | (with_reducible first | exact HI0.out | apply IsS83.alloc | apply IsS83.drewN | apply IsS83.drew | apply IsS83.set_1 | refine IsS83.far ?_ NB0_213.out _ | refine IsS83.far ?_ NB0_222.out _) | exact HI0.out)) (rw_ HO_223000.out) (by decide)) hk (fun _ h => h.2)) (fun _ h => h.1)); have n1_ := Aside0.mk (Kd.qS (Kd.zM (IsS83.apart (show IsS83 w0 _ g s0_0 x1001_3 from by repeat (first | (with_reducible first | exact HI0.out | apply IsS83.alloc | apply IsS83.drewN | apply IsS83.drew | apply IsS83.set_1 | refine IsS83.far ?_ NB0_213.out _ | refine IsS83.far ?_ NB0_222.out _) | exact HI0.out)) (rw_ HO_223001.out) (by decide)) hk (fun _ h => h.2)) (fun _ h => h.1)); have n2_ := Aside0.mk (KeepBut.blk hk (g' := gb213) (o := .cells #[.slice none 0 0, .slice none 0 0, .int .i64 0, .int .i64 0] 26 (0, 0)) (bw_ BK213.out) NB213_0.out (by simp)); have n3_ := Aside0.mk (KeepBut.blk hk (g' := gb222) (o := .cells #[u223000, u223001, .int .i64 x223002_3, .int .i64 x223003_3] 26 (0, 0)) (bw_ BK222.out) NB222_0.out (by simp)); have n4_ := Aside0.mk (Kd.qS (Kd.zM (IsS83.apart (show IsS83 w0 _ g s0_0 x1001_3 from by repeat (first | (with_reducible first | exact HI0.out | apply IsS83.alloc | apply IsS83.drewN | apply IsS83.drew | apply IsS83.set_1 | refine IsS83.far ?_ NB0_213.out _ | refine IsS83.far ?_ NB0_222.out _) | exact HI0.out)) (rw_ HO257.out) (by decide)) hk (fun _ h => h.2)) (fun _ h => h.1)); have n5_ := Aside0.mk (KeepBut.trans (by repeat (first | (with_reducible first | exact HK.out | apply KeepBut.set_ | apply qK | apply qO | apply qL | refine qQ ?_ GW213.out _ | refine qQ ?_ GW222.out _) | exact HK.out)) hk (.inl rfl)); have n6_ := Aside0.mk (hb); have n7_ := Aside0.mk (hi); clear HO_223000; clear HO_223001; clear BK213; clear BK222; clear HO257; clear HK; clear HB; clear HI0; have HO_223000 := n0_; have HO_223001 := n1_; have BK213 := n2_; have BK222 := n3_; have HO257 := n4_; have HK := n5_; have HB := n6_; have HI0 := n7_; clear n0_ n1_ n2_ n3_ n4_ n5_ n6_ n7_; (try clear hb); (try clear hb2); (try clear hk); (try clear hi); have hnb77 := NB222_213.out; have hnc77 := NB213_222.out; have hnb78 := NB222_0.out; have hnc78 := NB0_222.out; have hcz79_0 : w76.cell? ⟨gb222, 0, none⟩ = some (u223000) := (qA BK222.out 0).trans rfl; have hcz79_1 : w76.cell? ⟨gb222, 1, none⟩ = some (u223001) := (qA BK222.out 1).trans rfl; have hcz79_2 : w76.cell? ⟨gb222, 2, none⟩ = some (.int .i64 x223002_3) := (qA BK222.out 2).trans rfl; have hcz79_3 : w76.cell? ⟨gb222, 3, none⟩ = some (.int .i64 x223003_3) := (qA BK222.out 3).trans rfl; have hfz79_0 := qD BK222.out 0; have hfz79_1 := qD BK222.out 1; have hfz79_2 := qD BK222.out 2; have hfz79_3 := qD BK222.out 3) | ((with_reducible refine zB (N := 53) rfl ?_); refine Kd.R_lit (Kd.int .i64) _ 3 ?hg (N := 53) ?hd (xs := ([(-1), (-1), (-1), 0, 1, 2] : List Int)) (inner := [.int .i64 (-1), .int .i64 (-1), .int .i64 (-1), .int .i64 0, .int .i64 1, .int .i64 2]) (ok := fun _ => True) (okp := fun _ => True) ?hr ?hp (fun _ hk => hk) trivial (Below.refl _ _) (Nat.le_refl _) (by simp) ?_; (case hd => rfl); (case hg => rfl); (case hr => first | (go_simp; done) | (go_simp; rfl)); (case hp => exact (Reps.one (show Kd.M (Kd.int .i64) _ _ _ (-1) [.int .i64 (-1)] from rfl) (Reps.one (show Kd.M (Kd.int .i64) _ _ _ (-1) [.int .i64 (-1)] from rfl) (Reps.one (show Kd.M (Kd.int .i64) _ _ _ (-1) [.int .i64 (-1)] from rfl) (Reps.one (show Kd.M (Kd.int .i64) _ _ _ 0 [.int .i64 0] from rfl) (Reps.one (show Kd.M (Kd.int .i64) _ _ _ 1 [.int .i64 1] from rfl) (Reps.one (show Kd.M (Kd.int .i64) _ _ _ 2 [.int .i64 2] from rfl) (Reps.none _ _)))))))); intro v261 w80 ho81 hb hg_ hnew_; clear hg_ hnew_; (first | rw [← Ny260.out] at ho81 | (simp only [Int.reduceToNat] at ho81; rw [← Ny260.out] at ho81)); have n0_ := Aside0.mk (Kd.qU (by (with_reducible repeat (first | apply Kd.qX | apply Kd.qV | apply Kd.qW)); exact (Kd.qS (Kd.R_far (p := ⟨gb222, 2, none⟩) (Kd.qY HO_223000.out BK222.out (by decide)) (fun _ hk => hk.2) (.int .i64 t258)) (fun _ h_ => h_.1))) hb); have n1_ := Aside0.mk (Kd.qU (by (with_reducible repeat (first | apply Kd.qX | apply Kd.qV | apply Kd.qW)); exact (Kd.qS (Kd.R_far (p := ⟨gb222, 2, none⟩) (Kd.qY HO_223001.out BK222.out (by decide)) (fun _ hk => hk.2) (.int .i64 t258)) (fun _ h_ => h_.1))) hb); have n2_ := Aside0.mk (Kd.zV (by (with_reducible repeat (first | apply Kd.qX | apply Kd.qV | apply Kd.qW)); exact (Kd.qS (Kd.R_far (p := ⟨gb222, 2, none⟩) (Kd.qY HO257.out BK222.out (by decide)) (fun _ hk => hk.2) (.int .i64 t258)) (fun _ h_ => h_.1))) (Kd.zY ho81) hb); have n3_ := Aside0.mk (Kd.zJ (Kd.zZ ho81 (Kd.R_lt (by (with_reducible repeat (first | apply Kd.qX | apply Kd.qV | apply Kd.qW)); exact (Kd.qS (Kd.R_far (p := ⟨gb222, 2, none⟩) (Kd.qY HO257.out BK222.out (by decide)) (fun _ hk => hk.2) (.int .i64 t258)) (fun _ h_ => h_.1))))) (zF (w := w) (g := g) (row := none) (by repeat (first | (with_reducible first | exact HK.out | apply KeepBut.set_ | apply qK | apply qO | apply qL | refine qQ ?_ GW213.out _ | refine qQ ?_ GW222.out _) | exact HK.out)))); have n4_ := Aside0.mk (qJ (g := gb213) (o := .cells #[.slice none 0 0, .slice none 0 0, .int .i64 0, .int .i64 0] 26 (0, 0)) (by (with_reducible repeat (first | refine qH ?_ _ | refine qI ?_ | refine qG ?_ _)); refine qR ?_ NB213_222.out _; (with_reducible repeat (first | refine qH ?_ _ | refine qI ?_ | refine qG ?_ _)); exact BK213.out) hb); have n5_ := Aside0.mk (qJ (g := gb222) (o := .cells #[u223000, u223001, .int .i64 t258, .int .i64 x223003_3] 26 (0, 0)) (by (with_reducible repeat (first | refine qH ?_ _ | refine qI ?_ | refine qG ?_ _)); refine qP (cs := #[u223000, u223001, .int .i64 x223002_3, .int .i64 x223003_3]) ?_ 2 _ rfl; (with_reducible repeat (first | refine qH ?_ _ | refine qI ?_ | refine qG ?_ _)); exact BK222.out) hb); have n6_ := Aside0.mk (IsS83.below (show IsS83 w0 (w76.setCell ⟨gb222, 2, none⟩ (.int .i64 t258)) g s0_0 t259 from by repeat (first | (with_reducible first | exact HI0.out | apply IsS83.alloc | apply IsS83.drewN | apply IsS83.drew | apply IsS83.set_1 | refine IsS83.far ?_ NB0_213.out _ | refine IsS83.far ?_ NB0_222.out _) | exact HI0.out)) hb); have n7_ := Aside0.mk (KeepBut.trans (by repeat (first | (with_reducible first | exact HK.out | apply KeepBut.set_ | apply qK | apply qO | apply qL | refine qQ ?_ GW213.out _ | refine qQ ?_ GW222.out _) | exact HK.out)) (KeepBut.of_below hb g none) (.inl rfl)); have n8_ := Aside0.mk (qN (by repeat (first | (with_reducible first | exact HB.out | apply qF | apply qC | apply qE | refine qB ?_ (IsS83.ge HI0.out) | refine qB ?_ GE213.out | refine qB ?_ GE222.out) | exact HB.out)) hb); clear HO_223000; clear HO_223001; clear HO257; clear BK213; clear BK222; clear HI0; clear HK; clear HB; have HO_223000 := n0_; have HO_223001 := n1_; have HO257 := n2_; have HO262 := n3_; have BK213 := n4_; have BK222 := n5_; have HI0 := n6_; have HK := n7_; have HB := n8_; clear n0_ n1_ n2_ n3_ n4_ n5_ n6_ n7_ n8_; clear hb ho81; obtain ⟨Ao82, co82, eo82⟩ := Kd.zG HO262.out; subst eo82) | ((with_reducible refine qT (f := 40) rfl ?_); refine zL (some 54) rfl rfl Try.func40 (by kernel_rfl) rfl #[.pointer (some ⟨g, 0, none⟩), .slice Ao82 y260.length co82] rfl (by (try simp only [List.map_toArray, List.map_cons, List.map_nil]); first | done | rfl | (simp only [List.length_drop, List.length_take]; rfl)) ?_; (with_reducible refine (spec_l1Rd_one.calls k3 g s0_0 t259 _ _ y260 t263 t264 w0 _ ?side1 ?side2 ?side3 ?side4 ?side5 A72.out).mono ?_); (case side1 => repeat (first | (with_reducible first | exact HI0.out | apply IsS83.alloc | apply IsS83.drewN | apply IsS83.drew | apply IsS83.set_1 | refine IsS83.far ?_ NB0_213.out _ | refine IsS83.far ?_ NB0_222.out _) | exact HI0.out)); (case side2 => repeat (first | (with_reducible first | exact HB.out | apply qF | apply qC | apply qE | refine qB ?_ (IsS83.ge HI0.out) | refine qB ?_ GE213.out | refine qB ?_ GE222.out) | exact HB.out)); (case side3 => repeat (first | exact (Kd.zA HO262.out).2.2 | (with_reducible refine Kd.zC ?_ _) | (with_reducible refine Kd.zD ?_ _) | (with_reducible refine Kd.zH ?_))); (case side4 => exact (Kd.zA HO262.out).2.1); (case side5 => exact far_slice (IsS83.own_ne HI0.out HO262.out (by decide))); rintro e w83 ⟨rfl, hi, hb, hk⟩; refine ⟨_, rfl, ?_⟩; have n0_ := Aside0.mk (Kd.qS (Kd.zM (IsS83.apart (show IsS83 w0 _ g s0_0 t259 from by repeat (first | (with_reducible first | exact HI0.out | apply IsS83.alloc | apply IsS83.drewN | apply IsS83.drew | apply IsS83.set_1 | refine IsS83.far ?_ NB0_213.out _ | refine IsS83.far ?_ NB0_222.out _) | exact HI0.out)) (rw_ HO_223000.out) (by decide)) hk (fun _ h => h.2)) (fun _ h => h.1)); have n1_ := Aside0.mk (Kd.qS (Kd.zM (IsS83.apart (show IsS83 w0 _ g s0_0 t259 from by repeat (first | (with_reducible first | exact HI0.out | apply IsS83.alloc | apply IsS83.drewN | apply IsS83.drew | apply IsS83.set_1 | refine IsS83.far ?_ NB0_213.out _ | refine IsS83.far ?_ NB0_222.out _) | exact HI0.out)) (rw_ HO_223001.out) (by decide)) hk (fun _ h => h.2)) (fun _ h => h.1)); have n2_ := Aside0.mk (KeepBut.blk hk (g' := gb213) (o := .cells #[.slice none 0 0, .slice none 0 0, .int .i64 0, .int .i64 0] 26 (0, 0)) (bw_ BK213.out) NB213_0.out (by simp)); have n3_ := Aside0.mk (KeepBut.blk hk (g' := gb222) (o := .cells #[u223000, u223001, .int .i64 t258, .int .i64 x223003_3] 26 (0, 0)) (bw_ BK222.out) NB222_0.out (by simp)); have n4_ := Aside0.mk (Kd.qS (Kd.zM (IsS83.apart (show IsS83 w0 _ g s0_0 t259 from by repeat (first | (with_reducible first | exact HI0.out | apply IsS83.alloc | apply IsS83.drewN | apply IsS83.drew | apply IsS83.set_1 | refine IsS83.far ?_ NB0_213.out _ | refine IsS83.far ?_ NB0_222.out _) | exact HI0.out)) (rw_ HO257.out) (by decide)) hk (fun _ h => h.2)) (fun _ h => h.1)); have n5_ := Aside0.mk (Kd.qS (Kd.zM (IsS83.apart (show IsS83 w0 _ g s0_0 t259 from by repeat (first | (with_reducible first | exact HI0.out | apply IsS83.alloc | apply IsS83.drewN | apply IsS83.drew | apply IsS83.set_1 | refine IsS83.far ?_ NB0_213.out _ | refine IsS83.far ?_ NB0_222.out _) | exact HI0.out)) (rw_ HO262.out) (by decide)) hk (fun _ h => h.2)) (fun _ h => h.1)); have n6_ := Aside0.mk (KeepBut.trans (by repeat (first | (with_reducible first | exact HK.out | apply KeepBut.set_ | apply qK | apply qO | apply qL | refine qQ ?_ GW213.out _ | refine qQ ?_ GW222.out _) | exact HK.out)) hk (.inl rfl)); have n7_ := Aside0.mk (hb); have n8_ := Aside0.mk (hi); clear HO_223000; clear HO_223001; clear BK213; clear BK222; clear HO257; clear HO262; clear HK; clear HB; clear HI0; have HO_223000 := n0_; have HO_223001 := n1_; have BK213 := n2_; have BK222 := n3_; have HO257 := n4_; have HO262 := n5_; have HK := n6_; have HB := n7_; have HI0 := n8_; clear n0_ n1_ n2_ n3_ n4_ n5_ n6_ n7_ n8_; (try clear hb); (try clear hb2); (try clear hk); (try clear hi); have hcz84_0 : w83.cell? ⟨gb222, 0, none⟩ = some (u223000) := (qA BK222.out 0).trans rfl; have hcz84_1 : w83.cell? ⟨gb222, 1, none⟩ = some (u223001) := (qA BK222.out 1).trans rfl; have hcz84_2 : w83.cell? ⟨gb222, 2, none⟩ = some (.int .i64 t258) := (qA BK222.out 2).trans rfl; have hcz84_3 : w83.cell? ⟨gb222, 3, none⟩ = some (.int .i64 x223003_3) := (qA BK222.out 3).trans rfl; have hfz84_0 := qD BK222.out 0; have hfz84_1 := qD BK222.out 1; have hfz84_2 := qD BK222.out 2; have hfz84_3 := qD BK222.out 3; obtain ⟨Ao85, co85, eo85⟩ := Kd.zG HO_223000.out; subst eo85; have hnb86 := NB213_0.out; have hnc86 := NB0_213.out; have hcz87_0 : w83.cell? ⟨gb213, 0, none⟩ = some (.slice none 0 0) := (qA BK213.out 0).trans rfl; have hcz87_1 : w83.cell? ⟨gb213, 1, none⟩ = some (.slice none 0 0) := (qA BK213.out 1).trans rfl; have hcz87_2 : w83.cell? ⟨gb213, 2, none⟩ = some (.int .i64 0) := (qA BK213.out 2).trans rfl; have hcz87_3 : w83.cell? ⟨gb213, 3, none⟩ = some (.int .i64 0) := (qA BK213.out 3).trans rfl; have hfz87_0 := qD BK213.out 0; have hfz87_1 := qD BK213.out 1; have hfz87_2 := qD BK213.out 2; have hfz87_3 := qD BK213.out 3; obtain ⟨Ao88, co88, eo88⟩ := Kd.zG HO_223001.out; subst eo88))
                  refine bodyPost_ret (results_cell_row rfl _ _ gb213 26 #[.slice Ao85 x223000_3.length co85, .slice Ao88 x223001_3.length co88, .int .i64 t258, .int .i64 t263] (0, 0) _ rfl (by (with_reducible repeat (first | refine qH ?_ _ | refine qI ?_ | refine qG ?_ _)); refine qP (cs := #[.slice Ao85 x223000_3.length co85, .slice Ao88 x223001_3.length co88, .int .i64 t258, .int .i64 0]) ?_ 3 _ rfl; (with_reducible repeat (first | refine qH ?_ _ | refine qI ?_ | refine qG ?_ _)); refine qP (cs := #[.slice Ao85 x223000_3.length co85, .slice Ao88 x223001_3.length co88, .int .i64 0, .int .i64 0]) ?_ 2 _ rfl; (with_reducible repeat (first | refine qH ?_ _ | refine qI ?_ | refine qG ?_ _)); refine qP (cs := #[.slice Ao85 x223000_3.length co85, .slice none 0 0, .int .i64 0, .int .i64 0]) ?_ 1 _ rfl; (with_reducible repeat (first | refine qH ?_ _ | refine qI ?_ | refine qG ?_ _)); refine qP (cs := #[.slice none 0 0, .slice none 0 0, .int .i64 0, .int .i64 0]) ?_ 0 _ rfl; (with_reducible repeat (first | refine qH ?_ _ | refine qI ?_ | refine qG ?_ _)); refine qR ?_ NB213_222.out _; (with_reducible repeat (first | refine qH ?_ _ | refine qI ?_ | refine qG ?_ _)); exact BK213.out) Try.underlying26 rfl (by kernel_rfl)) rfl ?_
                  exact ⟨_, _, by first | rfl | (simp [errW_none, errW_some] <;> rfl) | (simp [*, errW_none, errW_some] <;> rfl), by (with_reducible repeat (first | apply Kd.qX | apply Kd.qV | apply Kd.qW)); exact Kd.qS (Kd.R_far (p := ⟨gb213, 3, none⟩) (Kd.R_far (p := ⟨gb213, 2, none⟩) (Kd.R_far (p := ⟨gb213, 1, none⟩) (Kd.R_far (p := ⟨gb213, 0, none⟩) (Kd.R_far (p := ⟨gb222, 3, none⟩) (Kd.qY (Kd.qY HO_223000.out BK222.out (by decide)) BK213.out (by decide)) (fun _ hk => hk.1.2) (.int .i64 t263)) (fun _ hk => hk.2) (.slice Ao85 x223000_3.length co85)) (fun _ hk => hk.2) (.slice Ao88 x223001_3.length co88)) (fun _ hk => hk.2) (.int .i64 t258)) (fun _ hk => hk.2) (.int .i64 t263)) (fun _ hk => trivial), by (with_reducible repeat (first | apply Kd.qX | apply Kd.qV | apply Kd.qW)); exact Kd.qS (Kd.R_far (p := ⟨gb213, 3, none⟩) (Kd.R_far (p := ⟨gb213, 2, none⟩) (Kd.R_far (p := ⟨gb213, 1, none⟩) (Kd.R_far (p := ⟨gb213, 0, none⟩) (Kd.R_far (p := ⟨gb222, 3, none⟩) (Kd.qY (Kd.qY HO_223001.out BK222.out (by decide)) BK213.out (by decide)) (fun _ hk => hk.1.2) (.int .i64 t263)) (fun _ hk => hk.2) (.slice Ao85 x223000_3.length co85)) (fun _ hk => hk.2) (.slice Ao88 x223001_3.length co88)) (fun _ hk => hk.2) (.int .i64 t258)) (fun _ hk => hk.2) (.int .i64 t263)) (fun _ hk => trivial), by repeat (first | (with_reducible first | exact HI0.out | apply IsS83.alloc | apply IsS83.drewN | apply IsS83.drew | apply IsS83.set_1 | refine IsS83.far ?_ NB0_213.out _ | refine IsS83.far ?_ NB0_222.out _) | exact HI0.out), by repeat (first | (with_reducible first | exact HB.out | apply qF | apply qC | apply qE | refine qB ?_ (IsS83.ge HI0.out) | refine qB ?_ GE213.out | refine qB ?_ GE222.out) | exact HB.out), by repeat (first | (with_reducible first | exact HK.out | apply KeepBut.set_ | apply qK | apply qO | apply qL | refine qQ ?_ GW213.out _ | refine qQ ?_ GW222.out _) | exact HK.out)⟩

end Go.Proofs.Ytepihebkdnmppaa.Ak
