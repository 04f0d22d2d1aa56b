/- Walks of the seat's functions, written by a program of this session (xprint.py) with the kit's printer: each call comes to just what its Lean function says. -/
import Derived.Test.YtepihebkdnmppaaxAf0
import Derived.Test.YtepihebkdnmppaaxAf6
namespace Go.Proofs.Ytepihebkdnmppaa.Af
open Go.RowKit Go.Proofs.YtepihebkdnmppaaV.PrintWords Go.Proofs.YtepihebkdnmppaaV.PrintLast Go.Proofs.YtepihebkdnmppaaV.PrintMore
attribute [local go_sem] zY zZ xH min_two zU zV xA xB   -- for this text's walks alone
attribute [local go_sem high] World.zI
set_option linter.unusedVariables false
set_option linter.unusedSimpArgs false

/-! ### spec_l7Sync: function 61 -/
def spec_l7Sync.l0 : Nat → Int → List ByteArray → List (S70) → Int → Int → List ByteArray → List (S70) → Int → Int → Option (List ByteArray × (List (S70)) × Int × Int)
  | 0, _, _, _, _, _, _, _, _, _ => none
  | k + 1, x4, x197000, x197001, x197002, x197003, x207000, x207001, x207002, x207003 => if x4 < (x197001.length : Int) then (if 0 ≤ x4 then (if 0 ≤ ((rd_T70 x197001 x4).f0) then (if ((rd_T70 x197001 x4).f0) < (x207000.length : Int) then (spec_l7Sync.l0 k (wrap64 (x4 + 1)) x197000 x197001 x197002 x197003 (x207000.set (((rd_T70 x197001 x4).f0) : Int).toNat ((rd_T70 x197001 x4).f1)) x207001 x207002 x207003) else (none)) else (none)) else (none)) else ((spec_l7Less.f x197003).bind fun t210 => (some (x207000, ([] : List (S70)), x207002, t210)))
def spec_l7Sync.f (k : Nat) (l0_0 : List ByteArray) (l0_1 : List (S70)) (a0_2 : Int) (a0_3 : Int) : Option (List ByteArray × (List (S70)) × Int × Int) := (spec_l7Copy.f l0_0 l0_1 a0_2 a0_3).bind fun bt198 => (if a0_3 = 0 then (some (bt198.1, bt198.2.1, bt198.2.2.1, bt198.2.2.2)) else (spec_l7Sync.l0 k 0 l0_0 l0_1 a0_2 a0_3 bt198.1 bt198.2.1 bt198.2.2.1 bt198.2.2.2))
theorem spec_l7Sync.mono_l : ∀ k, (∀ y0 y1 y2 y3 y4 y5 y6 y7 y8, LeO (spec_l7Sync.l0 k y0 y1 y2 y3 y4 y5 y6 y7 y8) (spec_l7Sync.l0 (k + 1) y0 y1 y2 y3 y4 y5 y6 y7 y8))
  | 0 => fun _ _ _ _ _ _ _ _ _ r h => by simp [spec_l7Sync.l0] at h
  | k + 1 => by
    have ih0 := spec_l7Sync.mono_l k
    · intro y0 y1 y2 y3 y4 y5 y6 y7 y8
      unfold spec_l7Sync.l0
      repeat' first
      | (with_reducible exact ih0 _ _ _ _ _ _ _ _ _)
      | (with_reducible exact LeO.refl _)
      | (with_reducible exact LeO.none _)
      | (with_reducible refine LeO.ite ?_ ?_)
      | (with_reducible refine LeO.bind ?_ (fun _ => ?_))
      | exact ih0 _ _ _ _ _ _ _ _ _
      | exact LeO.none _
      | refine LeO.ite ?_ ?_
      | refine LeO.bind ?_ (fun _ => ?_)
theorem spec_l7Sync.mono : ∀ a0 a1 a2 a3 k, LeO (spec_l7Sync.f k a0 a1 a2 a3) (spec_l7Sync.f (k + 1) a0 a1 a2 a3) := by
  intro a0 a1 a2 a3 k
  have ih0 := spec_l7Sync.mono_l k
  unfold spec_l7Sync.f
  repeat' first
      | (with_reducible exact ih0 _ _ _ _ _ _ _ _ _)
      | (with_reducible exact LeO.refl _)
      | (with_reducible exact LeO.none _)
      | (with_reducible refine LeO.ite ?_ ?_)
      | (with_reducible refine LeO.bind ?_ (fun _ => ?_))
      | exact ih0 _ _ _ _ _ _ _ _ _
      | exact LeO.none _
      | refine LeO.ite ?_ ?_
      | refine LeO.bind ?_ (fun _ => ?_)
def spec_l7Sync.T7 : Bool × List (List Nat × List Nat) := (true, [([], []), ([0], [0]), ([], []), ([2], [2]), ([], []), ([3, 4], [3, 4]), ([5], [5]), ([6], [6]), ([], []), ([8], [8]), ([], []), ([9, 10], [9, 10]), ([11], [11]), ([12], [12]), ([1, 7, 0, 1, 2, 3, 4, 5, 6, 7, 8, 9, 10, 11, 12, 13], [1, 7]), ([14, 13, 0, 1, 2, 3, 4, 5, 6, 7, 8, 9, 10, 11, 12, 13], [13, 14])])
def spec_l7Sync.B7 : List Nat := [0, 1, 0, 4, 0, 28, 60, 124, 0, 256, 0, 1792, 3840, 7936, 16383, 32767]
theorem spec_l7Sync.tab7 : rtab .any (opsOf Try.f61 7) = spec_l7Sync.T7 := by kernel_rfl
theorem spec_l7Sync.bits7 : waitsOk spec_l7Sync.T7.2 spec_l7Sync.B7 = true := by kernel_rfl
set_option maxHeartbeats 8000000 in
set_option maxRecDepth 100000 in
theorem spec_l7Sync.calls (k : Nat) (A0_0 : Option Addr) (c0_0 : Nat) (l0_0 : List ByteArray) (A0_1 : Option Addr) (c0_1 : Nat) (l0_1 : List (S70)) (a0_2 : Int) (a0_3 : Int) (r1 : List ByteArray) (r2 : List (S70)) (r3 : Int) (r4 : Int) (w : World) (hr0_0 : Kd.C Kd.string w A0_0 l0_0.length l0_0) (hc0_0 : l0_0.length ≤ c0_0) (hr0_1 : Kd.C k70 w A0_1 l0_1.length l0_1) (hc0_1 : l0_1.length ≤ c0_1) (h : spec_l7Sync.f k l0_0 l0_1 a0_2 a0_3 = some (r1, r2, r3, r4)) :
    Calls Try.prog 61 #[.agg #[.slice A0_0 l0_0.length c0_0, .slice A0_1 l0_1.length c0_1, .int .i64 a0_2, .int .i64 a0_3]] w fun e w' => ∃ v0_ v1_ : Value, e = .returned (.agg #[v0_, v1_, .int .i64 r3, .int .i64 r4]) ∧ Kd.R Kd.string 9 w' w.heap.size (fun _ => True) v0_ r1 ∧ Kd.R k70 70 w' w.heap.size (fun _ => True) v1_ r2 ∧ Below w.heap.size w w' := by
  have hu26 := Try.underlying26
  have HR0_0 := Aside0.mk hr0_0
  have HC0_0 := Aside0.mk hc0_0
  clear hr0_0 hc0_0
  have HR0_1 := Aside0.mk hr0_1
  have HC0_1 := Aside0.mk hc0_1
  clear hr0_1 hc0_1
  have HB := Aside0.mk (Below.refl w.heap.size w)
  have H : ((spec_l7Copy.f l0_0 l0_1 a0_2 a0_3).bind fun bt198 => (if a0_3 = 0 then (some (bt198.1, bt198.2.1, bt198.2.2.1, bt198.2.2.2)) else (spec_l7Sync.l0 k 0 l0_0 l0_1 a0_2 a0_3 bt198.1 bt198.2.1 bt198.2.2.1 bt198.2.2.2))) = some (r1, r2, r3, r4) := h
  clear h
  replace H := Option.bind_eq_some_iff.mp H
  obtain ⟨⟨t198, t201, t204, t205⟩, A20, H⟩ := H
  replace H : (if a0_3 = 0 then (some (t198, t201, t204, t205)) else (spec_l7Sync.l0 k 0 l0_0 l0_1 a0_2 a0_3 t198 t201 t204 t205)) = some (r1, r2, r3, r4) := H
  have A2 := Aside0.mk A20
  clear A20
  by_cases c3 : a0_3 = 0
  · rw [if_pos c3] at H
    have c3b0 : (a0_3 == 0) = true := beq_iff_eq.mpr c3
    have c3b1 : (a0_3 != 0) = false := bne_eq_false_iff_eq.mpr c3
    clear c3
    simp only [Option.some.injEq, Prod.mk.injEq] at H
    obtain ⟨rfl, rfl, rfl, rfl⟩ := H
    go_enter Try.func61, Try.ntmps61
    go_wp2_with (first | ((with_reducible refine qT (N := 1) rfl ?_); refine qR ?hg (N := 1) ?hd (cs := #[.slice A0_0 l0_0.length c0_0, .slice A0_1 l0_1.length c0_1, .int .i64 a0_2, .int .i64 a0_3]) (t := 26) ?hr ?_; (case hd => rfl); (case hg => rfl); (case hr => first | (go_simp; done) | (go_simp; rfl)); intro gb196 hg w4 hbox hb; have n0_ := Aside0.mk (qN (by repeat (first | (with_reducible first | exact HB.out | apply qE | apply qA | apply qD) | exact HB.out)) hb); have n1_ := Aside0.mk (hbox); have n2_ := Aside0.mk ((by rw [hg]; exact (qJ (by repeat (first | (with_reducible first | exact HB.out | apply qE | apply qA | apply qD) | exact HB.out))) : w.heap.size ≤ gb196)); have n3_ := Aside0.mk ((by rw [hg]; exact (qJ (by repeat (first | (with_reducible first | exact HB.out | apply qE | apply qA | apply qD) | exact HB.out))) : w.heap.size ≤ gb196)); clear HB; have HB := n0_; have BK196 := n1_; have GW196 := n2_; have GE196 := n3_; clear n0_ n1_ n2_ n3_; clear hb hbox hg) | ((with_reducible refine qT (N := 2) rfl ?_); refine qR ?hg (N := 2) ?hd (cs := #[.slice none 0 0, .slice none 0 0, .int .i64 0, .int .i64 0]) (t := 26) ?hr ?_; (case hd => rfl); (case hg => rfl); (case hr => first | (go_simp; done) | (go_simp; rfl)); intro gb197 hg w5 hbox hb; have n0_ := Aside0.mk (qM (g := gb196) (o := .cells #[.slice A0_0 l0_0.length c0_0, .slice A0_1 l0_1.length c0_1, .int .i64 a0_2, .int .i64 a0_3] 26 (0, 0)) (by (with_reducible repeat (first | refine qH ?_ _ | refine qI ?_ | refine qG ?_ _)); exact BK196.out) hb); have n1_ := Aside0.mk (qN (by repeat (first | (with_reducible first | exact HB.out | apply qE | apply qA | apply qD | refine qF ?_ GE196.out) | exact HB.out)) hb); have n2_ := Aside0.mk (hbox); have n3_ := Aside0.mk ((by rw [hg]; exact (qJ (by repeat (first | (with_reducible first | exact HB.out | apply qE | apply qA | apply qD | refine qF ?_ GE196.out) | exact HB.out))) : w.heap.size ≤ gb197)); have n4_ := Aside0.mk ((by rw [hg]; exact (qJ (by repeat (first | (with_reducible first | exact HB.out | apply qE | apply qA | apply qD | refine qF ?_ GE196.out) | exact HB.out))) : w.heap.size ≤ gb197)); have n5_ := Aside0.mk ((by rw [hg]; exact Nat.ne_of_lt (zB (g := gb196) (o := .cells #[.slice A0_0 l0_0.length c0_0, .slice A0_1 l0_1.length c0_1, .int .i64 a0_2, .int .i64 a0_3] 26 (0, 0)) (by (with_reducible repeat (first | refine qH ?_ _ | refine qI ?_ | refine qG ?_ _)); exact BK196.out)) : gb196 ≠ gb197)); have n6_ := Aside0.mk ((by rw [hg]; exact Nat.ne_of_gt (zB (g := gb196) (o := .cells #[.slice A0_0 l0_0.length c0_0, .slice A0_1 l0_1.length c0_1, .int .i64 a0_2, .int .i64 a0_3] 26 (0, 0)) (by (with_reducible repeat (first | refine qH ?_ _ | refine qI ?_ | refine qG ?_ _)); exact BK196.out)) : gb197 ≠ gb196)); clear BK196; clear HB; have BK196 := n0_; have HB := n1_; have BK197 := n2_; have GW197 := n3_; have GE197 := n4_; have NB196_197 := n5_; have NB197_196 := n6_; clear n0_ n1_ n2_ n3_ n4_ n5_ n6_; clear hb hbox hg; have hnb6 := NB196_197.out; have hnc6 := NB197_196.out; have hcz7_0 : w5.cell? ⟨gb196, 0, none⟩ = some (.slice A0_0 l0_0.length c0_0) := (qC BK196.out 0).trans rfl; have hcz7_1 : w5.cell? ⟨gb196, 1, none⟩ = some (.slice A0_1 l0_1.length c0_1) := (qC BK196.out 1).trans rfl; have hcz7_2 : w5.cell? ⟨gb196, 2, none⟩ = some (.int .i64 a0_2) := (qC BK196.out 2).trans rfl; have hcz7_3 : w5.cell? ⟨gb196, 3, none⟩ = some (.int .i64 a0_3) := (qC BK196.out 3).trans rfl; have hfz7_0 := qB BK196.out 0; have hfz7_1 := qB BK196.out 1; have hfz7_2 := qB BK196.out 2; have hfz7_3 := qB BK196.out 3) | ((with_reducible refine qQ (f := 38) rfl ?_); refine zD (some 6) rfl rfl Try.func38 (by kernel_rfl) rfl #[.agg #[.slice A0_0 l0_0.length c0_0, .slice A0_1 l0_1.length c0_1, .int .i64 a0_2, .int .i64 a0_3]] rfl (by (try simp only [List.map_toArray, List.map_cons, List.map_nil]); first | done | rfl | (simp only [List.length_drop, List.length_take]; rfl)) ?_; (with_reducible refine (spec_l7Copy.calls _ _ l0_0 _ _ l0_1 a0_2 a0_3 t198 t201 t204 t205 _ ?side1 ?side2 ?side3 ?side4 A2.out).mono ?_); (case side1 => repeat (first | exact (Kd.qW HR0_0.out HB.out) | (with_reducible refine Kd.qZ ?_ _) | (with_reducible refine Kd.zA ?_ _) | (with_reducible refine Kd.zC ?_))); (case side2 => exact HC0_0.out); (case side3 => repeat (first | exact (Kd.qW HR0_1.out HB.out) | (with_reducible refine Kd.qZ ?_ _) | (with_reducible refine Kd.zA ?_ _) | (with_reducible refine Kd.zC ?_))); (case side4 => exact HC0_1.out); rintro e w8 ⟨v199, v202, rfl, ho0, ho1, hb⟩; refine ⟨_, rfl, ?_⟩; have n0_ := Aside0.mk (Kd.zG ho0 (qJ (by repeat (first | (with_reducible first | exact HB.out | apply qE | apply qA | apply qD | refine qF ?_ GE196.out | refine qF ?_ GE197.out) | exact HB.out)))); have n1_ := Aside0.mk (Kd.zG ho1 (qJ (by repeat (first | (with_reducible first | exact HB.out | apply qE | apply qA | apply qD | refine qF ?_ GE196.out | refine qF ?_ GE197.out) | exact HB.out)))); have n2_ := Aside0.mk (qM (g := gb196) (o := .cells #[.slice A0_0 l0_0.length c0_0, .slice A0_1 l0_1.length c0_1, .int .i64 a0_2, .int .i64 a0_3] 26 (0, 0)) (by (with_reducible repeat (first | refine qH ?_ _ | refine qI ?_ | refine qG ?_ _)); exact BK196.out) hb); have n3_ := Aside0.mk (qM (g := gb197) (o := .cells #[.slice none 0 0, .slice none 0 0, .int .i64 0, .int .i64 0] 26 (0, 0)) (by (with_reducible repeat (first | refine qH ?_ _ | refine qI ?_ | refine qG ?_ _)); exact BK197.out) hb); have n4_ := Aside0.mk (qN (by repeat (first | (with_reducible first | exact HB.out | apply qE | apply qA | apply qD | refine qF ?_ GE196.out | refine qF ?_ GE197.out) | exact HB.out)) hb); clear BK196; clear BK197; clear HB; have HO200 := n0_; have HO203 := n1_; have BK196 := n2_; have BK197 := n3_; have HB := n4_; clear n0_ n1_ n2_ n3_ n4_; (try clear hb); (try clear hb2); (try clear hk); (try clear hi); (try clear ho0); (try clear ho1)) | ((with_reducible refine qT (N := 3) rfl ?_); refine qR ?hg (N := 3) ?hd (cs := #[.slice none 0 0, .slice none 0 0, .int .i64 0, .int .i64 0]) (t := 26) ?hr ?_; (case hd => rfl); (case hg => rfl); (case hr => first | (go_simp; done) | (go_simp; rfl)); intro gb206 hg w9 hbox hb; have n0_ := Aside0.mk (Kd.qP (by (with_reducible repeat (first | apply Kd.qL | apply Kd.qK | apply Kd.qO)); exact HO200.out) hb); have n1_ := Aside0.mk (Kd.qP (by (with_reducible repeat (first | apply Kd.qL | apply Kd.qK | apply Kd.qO)); exact HO203.out) hb); have n2_ := Aside0.mk (qM (g := gb196) (o := .cells #[.slice A0_0 l0_0.length c0_0, .slice A0_1 l0_1.length c0_1, .int .i64 a0_2, .int .i64 a0_3] 26 (0, 0)) (by (with_reducible repeat (first | refine qH ?_ _ | refine qI ?_ | refine qG ?_ _)); exact BK196.out) hb); have n3_ := Aside0.mk (qM (g := gb197) (o := .cells #[.slice none 0 0, .slice none 0 0, .int .i64 0, .int .i64 0] 26 (0, 0)) (by (with_reducible repeat (first | refine qH ?_ _ | refine qI ?_ | refine qG ?_ _)); exact BK197.out) hb); have n4_ := Aside0.mk (qN (by repeat (first | (with_reducible first | exact HB.out | apply qE | apply qA | apply qD | refine qF ?_ GE196.out | refine qF ?_ GE197.out) | exact HB.out)) hb); have n5_ := Aside0.mk (hbox); have n6_ := Aside0.mk ((by rw [hg]; exact (qJ (by repeat (first | (with_reducible first | exact HB.out | apply qE | apply qA | apply qD | refine qF ?_ GE196.out | refine qF ?_ GE197.out) | exact HB.out))) : w.heap.size ≤ gb206)); have n7_ := Aside0.mk ((by rw [hg]; exact (qJ (by repeat (first | (with_reducible first | exact HB.out | apply qE | apply qA | apply qD | refine qF ?_ GE196.out | refine qF ?_ GE197.out) | exact HB.out))) : w.heap.size ≤ gb206)); have n8_ := Aside0.mk ((by rw [hg]; exact Nat.ne_of_lt (zB (g := gb196) (o := .cells #[.slice A0_0 l0_0.length c0_0, .slice A0_1 l0_1.length c0_1, .int .i64 a0_2, .int .i64 a0_3] 26 (0, 0)) (by (with_reducible repeat (first | refine qH ?_ _ | refine qI ?_ | refine qG ?_ _)); exact BK196.out)) : gb196 ≠ gb206)); have n9_ := Aside0.mk ((by rw [hg]; exact Nat.ne_of_gt (zB (g := gb196) (o := .cells #[.slice A0_0 l0_0.length c0_0, .slice A0_1 l0_1.length c0_1, .int .i64 a0_2, .int .i64 a0_3] 26 (0, 0)) (by (with_reducible repeat (first | refine qH ?_ _ | refine qI ?_ | refine qG ?_ _)); exact BK196.out)) : gb206 ≠ gb196)); have n10_ := Aside0.mk ((by rw [hg]; exact Nat.ne_of_lt (zB (g := gb197) (o := .cells #[.slice none 0 0, .slice none 0 0, .int .i64 0, .int .i64 0] 26 (0, 0)) (by (with_reducible repeat (first | refine qH ?_ _ | refine qI ?_ | refine qG ?_ _)); exact BK197.out)) : gb197 ≠ gb206)); have n11_ := Aside0.mk ((by rw [hg]; exact Nat.ne_of_gt (zB (g := gb197) (o := .cells #[.slice none 0 0, .slice none 0 0, .int .i64 0, .int .i64 0] 26 (0, 0)) (by (with_reducible repeat (first | refine qH ?_ _ | refine qI ?_ | refine qG ?_ _)); exact BK197.out)) : gb206 ≠ gb197)); clear HO200; clear HO203; clear BK196; clear BK197; clear HB; have HO200 := n0_; have HO203 := n1_; have BK196 := n2_; have BK197 := n3_; have HB := n4_; have BK206 := n5_; have GW206 := n6_; have GE206 := n7_; have NB196_206 := n8_; have NB206_196 := n9_; have NB197_206 := n10_; have NB206_197 := n11_; clear n0_ n1_ n2_ n3_ n4_ n5_ n6_ n7_ n8_ n9_ n10_ n11_; clear hb hbox hg; obtain ⟨Ao10, co10, eo10⟩ := Kd.zF HO200.out; subst eo10; have hnb11 := NB206_196.out; have hnc11 := NB196_206.out; have hnb12 := NB206_197.out; have hnc12 := NB197_206.out; have hcz13_0 : w9.cell? ⟨gb206, 0, none⟩ = some (.slice none 0 0) := (qC BK206.out 0).trans rfl; have hcz13_1 : w9.cell? ⟨gb206, 1, none⟩ = some (.slice none 0 0) := (qC BK206.out 1).trans rfl; have hcz13_2 : w9.cell? ⟨gb206, 2, none⟩ = some (.int .i64 0) := (qC BK206.out 2).trans rfl; have hcz13_3 : w9.cell? ⟨gb206, 3, none⟩ = some (.int .i64 0) := (qC BK206.out 3).trans rfl; have hfz13_0 := qB BK206.out 0; have hfz13_1 := qB BK206.out 1; have hfz13_2 := qB BK206.out 2; have hfz13_3 := qB BK206.out 3; obtain ⟨Ao14, co14, eo14⟩ := Kd.zF HO203.out; subst eo14; have hcz15_0 : w9.cell? ⟨gb196, 0, none⟩ = some (.slice A0_0 l0_0.length c0_0) := (qC BK196.out 0).trans rfl; have hcz15_1 : w9.cell? ⟨gb196, 1, none⟩ = some (.slice A0_1 l0_1.length c0_1) := (qC BK196.out 1).trans rfl; have hcz15_2 : w9.cell? ⟨gb196, 2, none⟩ = some (.int .i64 a0_2) := (qC BK196.out 2).trans rfl; have hcz15_3 : w9.cell? ⟨gb196, 3, none⟩ = some (.int .i64 a0_3) := (qC BK196.out 3).trans rfl; have hfz15_0 := qB BK196.out 0; have hfz15_1 := qB BK196.out 1; have hfz15_2 := qB BK196.out 2; have hfz15_3 := qB BK196.out 3; have hcz16_0 : w9.cell? ⟨gb197, 0, none⟩ = some (.slice none 0 0) := (qC BK197.out 0).trans rfl; have hcz16_1 : w9.cell? ⟨gb197, 1, none⟩ = some (.slice none 0 0) := (qC BK197.out 1).trans rfl; have hcz16_2 : w9.cell? ⟨gb197, 2, none⟩ = some (.int .i64 0) := (qC BK197.out 2).trans rfl; have hcz16_3 : w9.cell? ⟨gb197, 3, none⟩ = some (.int .i64 0) := (qC BK197.out 3).trans rfl; have hfz16_0 := qB BK197.out 0; have hfz16_1 := qB BK197.out 1; have hfz16_2 := qB BK197.out 2; have hfz16_3 := qB BK197.out 3))
    refine bodyPost_ret (results_cell_row rfl _ _ gb197 26 #[.slice Ao10 t198.length co10, .slice Ao14 t201.length co14, .int .i64 t204, .int .i64 t205] (0, 0) _ rfl (by (with_reducible repeat (first | refine qH ?_ _ | refine qI ?_ | refine qG ?_ _)); refine qU (cs := #[.slice Ao10 t198.length co10, .slice Ao14 t201.length co14, .int .i64 t204, .int .i64 0]) ?_ 3 _ rfl; (with_reducible repeat (first | refine qH ?_ _ | refine qI ?_ | refine qG ?_ _)); refine qU (cs := #[.slice Ao10 t198.length co10, .slice Ao14 t201.length co14, .int .i64 0, .int .i64 0]) ?_ 2 _ rfl; (with_reducible repeat (first | refine qH ?_ _ | refine qI ?_ | refine qG ?_ _)); refine qU (cs := #[.slice Ao10 t198.length co10, .slice none 0 0, .int .i64 0, .int .i64 0]) ?_ 1 _ rfl; (with_reducible repeat (first | refine qH ?_ _ | refine qI ?_ | refine qG ?_ _)); refine qU (cs := #[.slice none 0 0, .slice none 0 0, .int .i64 0, .int .i64 0]) ?_ 0 _ rfl; (with_reducible repeat (first | refine qH ?_ _ | refine qI ?_ | refine qG ?_ _)); refine qX ?_ NB197_206.out _; (with_reducible repeat (first | refine qH ?_ _ | refine qI ?_ | refine qG ?_ _)); refine qX ?_ NB197_206.out _; (with_reducible repeat (first | refine qH ?_ _ | refine qI ?_ | refine qG ?_ _)); refine qX ?_ NB197_206.out _; (with_reducible repeat (first | refine qH ?_ _ | refine qI ?_ | refine qG ?_ _)); refine qX ?_ NB197_206.out _; (with_reducible repeat (first | refine qH ?_ _ | refine qI ?_ | refine qG ?_ _)); exact BK197.out) Try.underlying26 rfl (by kernel_rfl)) rfl ?_
    exact ⟨_, _, by first | rfl | (simp [errW_none, errW_some] <;> rfl) | (simp [*, errW_none, errW_some] <;> rfl), by (with_reducible repeat (first | apply Kd.qL | apply Kd.qK | apply Kd.qO)); exact Kd.qV (Kd.R_far (p := ⟨gb197, 3, none⟩) (Kd.R_far (p := ⟨gb197, 2, none⟩) (Kd.R_far (p := ⟨gb197, 1, none⟩) (Kd.R_far (p := ⟨gb197, 0, none⟩) (Kd.R_far (p := ⟨gb206, 3, none⟩) (Kd.R_far (p := ⟨gb206, 2, none⟩) (Kd.R_far (p := ⟨gb206, 1, none⟩) (Kd.R_far (p := ⟨gb206, 0, none⟩) (Kd.qY (Kd.qY HO200.out BK206.out (by decide)) BK197.out (by decide)) (fun _ hk => hk.1.2) (.slice Ao10 t198.length co10)) (fun _ hk => hk.1.2) (.slice Ao14 t201.length co14)) (fun _ hk => hk.1.2) (.int .i64 t204)) (fun _ hk => hk.1.2) (.int .i64 t205)) (fun _ hk => hk.2) (.slice Ao10 t198.length co10)) (fun _ hk => hk.2) (.slice Ao14 t201.length co14)) (fun _ hk => hk.2) (.int .i64 t204)) (fun _ hk => hk.2) (.int .i64 t205)) (fun _ hk => trivial), by (with_reducible repeat (first | apply Kd.qL | apply Kd.qK | apply Kd.qO)); exact Kd.qV (Kd.R_far (p := ⟨gb197, 3, none⟩) (Kd.R_far (p := ⟨gb197, 2, none⟩) (Kd.R_far (p := ⟨gb197, 1, none⟩) (Kd.R_far (p := ⟨gb197, 0, none⟩) (Kd.R_far (p := ⟨gb206, 3, none⟩) (Kd.R_far (p := ⟨gb206, 2, none⟩) (Kd.R_far (p := ⟨gb206, 1, none⟩) (Kd.R_far (p := ⟨gb206, 0, none⟩) (Kd.qY (Kd.qY HO203.out BK206.out (by decide)) BK197.out (by decide)) (fun _ hk => hk.1.2) (.slice Ao10 t198.length co10)) (fun _ hk => hk.1.2) (.slice Ao14 t201.length co14)) (fun _ hk => hk.1.2) (.int .i64 t204)) (fun _ hk => hk.1.2) (.int .i64 t205)) (fun _ hk => hk.2) (.slice Ao10 t198.length co10)) (fun _ hk => hk.2) (.slice Ao14 t201.length co14)) (fun _ hk => hk.2) (.int .i64 t204)) (fun _ hk => hk.2) (.int .i64 t205)) (fun _ hk => trivial), by repeat (first | (with_reducible first | exact HB.out | apply qE | apply qA | apply qD | refine qF ?_ GE196.out | refine qF ?_ GE197.out | refine qF ?_ GE206.out) | exact HB.out)⟩
  · rw [if_neg c3] at H
    have c3b0 : (a0_3 == 0) = false := beq_eq_false_iff_ne.mpr c3
    have c3b1 : (a0_3 != 0) = true := bne_iff_ne.mpr c3
    have H' := Aside0.mk H
    clear H
    go_enter Try.func61, Try.ntmps61
    go_wp2_with (first | ((with_reducible refine qT (N := 1) rfl ?_); refine qR ?hg (N := 1) ?hd (cs := #[.slice A0_0 l0_0.length c0_0, .slice A0_1 l0_1.length c0_1, .int .i64 a0_2, .int .i64 a0_3]) (t := 26) ?hr ?_; (case hd => rfl); (case hg => rfl); (case hr => first | (go_simp; done) | (go_simp; rfl)); intro gb196 hg w17 hbox hb; have n0_ := Aside0.mk (qN (by repeat (first | (with_reducible first | exact HB.out | apply qE | apply qA | apply qD) | exact HB.out)) hb); have n1_ := Aside0.mk (hbox); have n2_ := Aside0.mk ((by rw [hg]; exact (qJ (by repeat (first | (with_reducible first | exact HB.out | apply qE | apply qA | apply qD) | exact HB.out))) : w.heap.size ≤ gb196)); have n3_ := Aside0.mk ((by rw [hg]; exact (qJ (by repeat (first | (with_reducible first | exact HB.out | apply qE | apply qA | apply qD) | exact HB.out))) : w.heap.size ≤ gb196)); clear HB; have HB := n0_; have BK196 := n1_; have GW196 := n2_; have GE196 := n3_; clear n0_ n1_ n2_ n3_; clear hb hbox hg) | ((with_reducible refine qT (N := 2) rfl ?_); refine qR ?hg (N := 2) ?hd (cs := #[.slice none 0 0, .slice none 0 0, .int .i64 0, .int .i64 0]) (t := 26) ?hr ?_; (case hd => rfl); (case hg => rfl); (case hr => first | (go_simp; done) | (go_simp; rfl)); intro gb197 hg w18 hbox hb; have n0_ := Aside0.mk (qM (g := gb196) (o := .cells #[.slice A0_0 l0_0.length c0_0, .slice A0_1 l0_1.length c0_1, .int .i64 a0_2, .int .i64 a0_3] 26 (0, 0)) (by (with_reducible repeat (first | refine qH ?_ _ | refine qI ?_ | refine qG ?_ _)); exact BK196.out) hb); have n1_ := Aside0.mk (qN (by repeat (first | (with_reducible first | exact HB.out | apply qE | apply qA | apply qD | refine qF ?_ GE196.out) | exact HB.out)) hb); have n2_ := Aside0.mk (hbox); have n3_ := Aside0.mk ((by rw [hg]; exact (qJ (by repeat (first | (with_reducible first | exact HB.out | apply qE | apply qA | apply qD | refine qF ?_ GE196.out) | exact HB.out))) : w.heap.size ≤ gb197)); have n4_ := Aside0.mk ((by rw [hg]; exact (qJ (by repeat (first | (with_reducible first | exact HB.out | apply qE | apply qA | apply qD | refine qF ?_ GE196.out) | exact HB.out))) : w.heap.size ≤ gb197)); have n5_ := Aside0.mk ((by rw [hg]; exact Nat.ne_of_lt (zB (g := gb196) (o := .cells #[.slice A0_0 l0_0.length c0_0, .slice A0_1 l0_1.length c0_1, .int .i64 a0_2, .int .i64 a0_3] 26 (0, 0)) (by (with_reducible repeat (first | refine qH ?_ _ | refine qI ?_ | refine qG ?_ _)); exact BK196.out)) : gb196 ≠ gb197)); have n6_ := Aside0.mk ((by rw [hg]; exact Nat.ne_of_gt (zB (g := gb196) (o := .cells #[.slice A0_0 l0_0.length c0_0, .slice A0_1 l0_1.length c0_1, .int .i64 a0_2, .int .i64 a0_3] 26 (0, 0)) (by (with_reducible repeat (first | refine qH ?_ _ | refine qI ?_ | refine qG ?_ _)); exact BK196.out)) : gb197 ≠ gb196)); clear BK196; clear HB; have BK196 := n0_; have HB := n1_; have BK197 := n2_; have GW197 := n3_; have GE197 := n4_; have NB196_197 := n5_; have NB197_196 := n6_; clear n0_ n1_ n2_ n3_ n4_ n5_ n6_; clear hb hbox hg; have hnb19 := NB196_197.out; have hnc19 := NB197_196.out; have hcz20_0 : w18.cell? ⟨gb196, 0, none⟩ = some (.slice A0_0 l0_0.length c0_0) := (qC BK196.out 0).trans rfl; have hcz20_1 : w18.cell? ⟨gb196, 1, none⟩ = some (.slice A0_1 l0_1.length c0_1) := (qC BK196.out 1).trans rfl; have hcz20_2 : w18.cell? ⟨gb196, 2, none⟩ = some (.int .i64 a0_2) := (qC BK196.out 2).trans rfl; have hcz20_3 : w18.cell? ⟨gb196, 3, none⟩ = some (.int .i64 a0_3) := (qC BK196.out 3).trans rfl; have hfz20_0 := qB BK196.out 0; have hfz20_1 := qB BK196.out 1; have hfz20_2 := qB BK196.out 2; have hfz20_3 := qB BK196.out 3) | ((with_reducible refine qQ (f := 38) rfl ?_); refine zD (some 6) rfl rfl Try.func38 (by kernel_rfl) rfl #[.agg #[.slice A0_0 l0_0.length c0_0, .slice A0_1 l0_1.length c0_1, .int .i64 a0_2, .int .i64 a0_3]] rfl (by (try simp only [List.map_toArray, List.map_cons, List.map_nil]); first | done | rfl | (simp only [List.length_drop, List.length_take]; rfl)) ?_; (with_reducible refine (spec_l7Copy.calls _ _ l0_0 _ _ l0_1 a0_2 a0_3 t198 t201 t204 t205 _ ?side1 ?side2 ?side3 ?side4 A2.out).mono ?_); (case side1 => repeat (first | exact (Kd.qW HR0_0.out HB.out) | (with_reducible refine Kd.qZ ?_ _) | (with_reducible refine Kd.zA ?_ _) | (with_reducible refine Kd.zC ?_))); (case side2 => exact HC0_0.out); (case side3 => repeat (first | exact (Kd.qW HR0_1.out HB.out) | (with_reducible refine Kd.qZ ?_ _) | (with_reducible refine Kd.zA ?_ _) | (with_reducible refine Kd.zC ?_))); (case side4 => exact HC0_1.out); rintro e w21 ⟨v199, v202, rfl, ho0, ho1, hb⟩; refine ⟨_, rfl, ?_⟩; have n0_ := Aside0.mk (Kd.zG ho0 (qJ (by repeat (first | (with_reducible first | exact HB.out | apply qE | apply qA | apply qD | refine qF ?_ GE196.out | refine qF ?_ GE197.out) | exact HB.out)))); have n1_ := Aside0.mk (Kd.zG ho1 (qJ (by repeat (first | (with_reducible first | exact HB.out | apply qE | apply qA | apply qD | refine qF ?_ GE196.out | refine qF ?_ GE197.out) | exact HB.out)))); have n2_ := Aside0.mk (qM (g := gb196) (o := .cells #[.slice A0_0 l0_0.length c0_0, .slice A0_1 l0_1.length c0_1, .int .i64 a0_2, .int .i64 a0_3] 26 (0, 0)) (by (with_reducible repeat (first | refine qH ?_ _ | refine qI ?_ | refine qG ?_ _)); exact BK196.out) hb); have n3_ := Aside0.mk (qM (g := gb197) (o := .cells #[.slice none 0 0, .slice none 0 0, .int .i64 0, .int .i64 0] 26 (0, 0)) (by (with_reducible repeat (first | refine qH ?_ _ | refine qI ?_ | refine qG ?_ _)); exact BK197.out) hb); have n4_ := Aside0.mk (qN (by repeat (first | (with_reducible first | exact HB.out | apply qE | apply qA | apply qD | refine qF ?_ GE196.out | refine qF ?_ GE197.out) | exact HB.out)) hb); clear BK196; clear BK197; clear HB; have HO200 := n0_; have HO203 := n1_; have BK196 := n2_; have BK197 := n3_; have HB := n4_; clear n0_ n1_ n2_ n3_ n4_; (try clear hb); (try clear hb2); (try clear hk); (try clear hi); (try clear ho0); (try clear ho1)) | ((with_reducible refine qT (N := 3) rfl ?_); refine qR ?hg (N := 3) ?hd (cs := #[.slice none 0 0, .slice none 0 0, .int .i64 0, .int .i64 0]) (t := 26) ?hr ?_; (case hd => rfl); (case hg => rfl); (case hr => first | (go_simp; done) | (go_simp; rfl)); intro gb206 hg w22 hbox hb; have n0_ := Aside0.mk (Kd.qP (by (with_reducible repeat (first | apply Kd.qL | apply Kd.qK | apply Kd.qO)); exact HO200.out) hb); have n1_ := Aside0.mk (Kd.qP (by (with_reducible repeat (first | apply Kd.qL | apply Kd.qK | apply Kd.qO)); exact HO203.out) hb); have n2_ := Aside0.mk (qM (g := gb196) (o := .cells #[.slice A0_0 l0_0.length c0_0, .slice A0_1 l0_1.length c0_1, .int .i64 a0_2, .int .i64 a0_3] 26 (0, 0)) (by (with_reducible repeat (first | refine qH ?_ _ | refine qI ?_ | refine qG ?_ _)); exact BK196.out) hb); have n3_ := Aside0.mk (qM (g := gb197) (o := .cells #[.slice none 0 0, .slice none 0 0, .int .i64 0, .int .i64 0] 26 (0, 0)) (by (with_reducible repeat (first | refine qH ?_ _ | refine qI ?_ | refine qG ?_ _)); exact BK197.out) hb); have n4_ := Aside0.mk (qN (by repeat (first | (with_reducible first | exact HB.out | apply qE | apply qA | apply qD | refine qF ?_ GE196.out | refine qF ?_ GE197.out) | exact HB.out)) hb); have n5_ := Aside0.mk (hbox); have n6_ := Aside0.mk ((by rw [hg]; exact (qJ (by repeat (first | (with_reducible first | exact HB.out | apply qE | apply qA | apply qD | refine qF ?_ GE196.out | refine qF ?_ GE197.out) | exact HB.out))) : w.heap.size ≤ gb206)); have n7_ := Aside0.mk ((by rw [hg]; exact (qJ (by repeat (first | (with_reducible first | exact HB.out | apply qE | apply qA | apply qD | refine qF ?_ GE196.out | refine qF ?_ GE197.out) | exact HB.out))) : w.heap.size ≤ gb206)); have n8_ := Aside0.mk ((by rw [hg]; exact Nat.ne_of_lt (zB (g := gb196) (o := .cells #[.slice A0_0 l0_0.length c0_0, .slice A0_1 l0_1.length c0_1, .int .i64 a0_2, .int .i64 a0_3] 26 (0, 0)) (by (with_reducible repeat (first | refine qH ?_ _ | refine qI ?_ | refine qG ?_ _)); exact BK196.out)) : gb196 ≠ gb206)); have n9_ := Aside0.mk ((by rw [hg]; exact Nat.ne_of_gt (zB (g := gb196) (o := .cells #[.slice A0_0 l0_0.length c0_0, .slice A0_1 l0_1.length c0_1, .int .i64 a0_2, .int .i64 a0_3] 26 (0, 0)) (by (with_reducible repeat (first | refine qH ?_ _ | refine qI ?_ | refine qG ?_ _)); exact BK196.out)) : gb206 ≠ gb196)); have n10_ := Aside0.mk ((by rw [hg]; exact Nat.ne_of_lt (zB (g := gb197) (o := .cells #[.slice none 0 0, .slice none 0 0, .int .i64 0, .int .i64 0] 26 (0, 0)) (by (with_reducible repeat (first | refine qH ?_ _ | refine qI ?_ | refine qG ?_ _)); exact BK197.out)) : gb197 ≠ gb206)); have n11_ := Aside0.mk ((by rw [hg]; exact Nat.ne_of_gt (zB (g := gb197) (o := .cells #[.slice none 0 0, .slice none 0 0, .int .i64 0, .int .i64 0] 26 (0, 0)) (by (with_reducible repeat (first | refine qH ?_ _ | refine qI ?_ | refine qG ?_ _)); exact BK197.out)) : gb206 ≠ gb197)); clear HO200; clear HO203; clear BK196; clear BK197; clear HB; have HO200 := n0_; have HO203 := n1_; have BK196 := n2_; have BK197 := n3_; have HB := n4_; have BK206 := n5_; have GW206 := n6_; have GE206 := n7_; have NB196_206 := n8_; have NB206_196 := n9_; have NB197_206 := n10_; have NB206_197 := n11_; clear n0_ n1_ n2_ n3_ n4_ n5_ n6_ n7_ n8_ n9_ n10_ n11_; clear hb hbox hg; obtain ⟨Ao23, co23, eo23⟩ := Kd.zF HO200.out; subst eo23; have hnb24 := NB206_196.out; have hnc24 := NB196_206.out; have hnb25 := NB206_197.out; have hnc25 := NB197_206.out; have hcz26_0 : w22.cell? ⟨gb206, 0, none⟩ = some (.slice none 0 0) := (qC BK206.out 0).trans rfl; have hcz26_1 : w22.cell? ⟨gb206, 1, none⟩ = some (.slice none 0 0) := (qC BK206.out 1).trans rfl; have hcz26_2 : w22.cell? ⟨gb206, 2, none⟩ = some (.int .i64 0) := (qC BK206.out 2).trans rfl; have hcz26_3 : w22.cell? ⟨gb206, 3, none⟩ = some (.int .i64 0) := (qC BK206.out 3).trans rfl; have hfz26_0 := qB BK206.out 0; have hfz26_1 := qB BK206.out 1; have hfz26_2 := qB BK206.out 2; have hfz26_3 := qB BK206.out 3; obtain ⟨Ao27, co27, eo27⟩ := Kd.zF HO203.out; subst eo27; have hcz28_0 : w22.cell? ⟨gb196, 0, none⟩ = some (.slice A0_0 l0_0.length c0_0) := (qC BK196.out 0).trans rfl; have hcz28_1 : w22.cell? ⟨gb196, 1, none⟩ = some (.slice A0_1 l0_1.length c0_1) := (qC BK196.out 1).trans rfl; have hcz28_2 : w22.cell? ⟨gb196, 2, none⟩ = some (.int .i64 a0_2) := (qC BK196.out 2).trans rfl; have hcz28_3 : w22.cell? ⟨gb196, 3, none⟩ = some (.int .i64 a0_3) := (qC BK196.out 3).trans rfl; have hfz28_0 := qB BK196.out 0; have hfz28_1 := qB BK196.out 1; have hfz28_2 := qB BK196.out 2; have hfz28_3 := qB BK196.out 3))
    go_loopg [4] k (fun kq v4 w' => ∃ (x4_1 : Int) (x207000_1 : List ByteArray) (u207000 : Value), v4 = .int .i64 x4_1 ∧ Aside0 (spec_l7Sync.l0 kq x4_1 l0_0 l0_1 a0_2 a0_3 x207000_1 t201 t204 t205 = some (r1, r2, r3, r4)) ∧ Aside0 (kq ≤ k) ∧ Aside0 (Kd.R Kd.string 9 w' w.heap.size (fun _ => True) u207000 x207000_1) ∧ Aside0 (Kd.R k70 70 w' w.heap.size (fun _ => True) (.slice Ao27 t201.length co27) t201) ∧ Aside0 (w'.heap[gb196]? = some (.cells #[(.slice A0_0 l0_0.length c0_0), (.slice A0_1 l0_1.length c0_1), .int .i64 a0_2, .int .i64 a0_3] 26 (0, 0))) ∧ Aside0 (w'.heap[gb197]? = some (.cells #[(.slice none 0 0), (.slice none 0 0), .int .i64 0, .int .i64 0] 26 (0, 0))) ∧ Aside0 (w'.heap[gb206]? = some (.cells #[u207000, (.slice Ao27 t201.length co27), .int .i64 t204, .int .i64 t205] 26 (0, 0))) ∧ Aside0 (Below w.heap.size w w'))
    case atStart => exact ⟨(0), (t198), (.slice Ao23 t198.length co23), (by first | rfl | (simp; done) | (simp [*]; done)), H', ⟨Nat.le_refl _⟩, ⟨by (with_reducible repeat (first | apply Kd.qL | apply Kd.qK | apply Kd.qO)); exact Kd.qV (Kd.R_far (p := ⟨gb206, 3, none⟩) (Kd.R_far (p := ⟨gb206, 2, none⟩) (Kd.R_far (p := ⟨gb206, 1, none⟩) (Kd.R_far (p := ⟨gb206, 0, none⟩) (Kd.qY HO200.out BK206.out (by decide)) (fun _ hk => hk.2) (.slice Ao23 t198.length co23)) (fun _ hk => hk.2) (.slice Ao27 t201.length co27)) (fun _ hk => hk.2) (.int .i64 t204)) (fun _ hk => hk.2) (.int .i64 t205)) (fun _ hk => trivial)⟩, ⟨by (with_reducible repeat (first | apply Kd.qL | apply Kd.qK | apply Kd.qO)); exact Kd.qV (Kd.R_far (p := ⟨gb206, 3, none⟩) (Kd.R_far (p := ⟨gb206, 2, none⟩) (Kd.R_far (p := ⟨gb206, 1, none⟩) (Kd.R_far (p := ⟨gb206, 0, none⟩) (Kd.qY HO203.out BK206.out (by decide)) (fun _ hk => hk.2) (.slice Ao23 t198.length co23)) (fun _ hk => hk.2) (.slice Ao27 t201.length co27)) (fun _ hk => hk.2) (.int .i64 t204)) (fun _ hk => hk.2) (.int .i64 t205)) (fun _ hk => trivial)⟩, ⟨by (with_reducible repeat (first | refine qH ?_ _ | refine qI ?_ | refine qG ?_ _)); refine qX ?_ NB196_206.out _; (with_reducible repeat (first | refine qH ?_ _ | refine qI ?_ | refine qG ?_ _)); refine qX ?_ NB196_206.out _; (with_reducible repeat (first | refine qH ?_ _ | refine qI ?_ | refine qG ?_ _)); refine qX ?_ NB196_206.out _; (with_reducible repeat (first | refine qH ?_ _ | refine qI ?_ | refine qG ?_ _)); refine qX ?_ NB196_206.out _; (with_reducible repeat (first | refine qH ?_ _ | refine qI ?_ | refine qG ?_ _)); exact BK196.out⟩, ⟨by (with_reducible repeat (first | refine qH ?_ _ | refine qI ?_ | refine qG ?_ _)); refine qX ?_ NB197_206.out _; (with_reducible repeat (first | refine qH ?_ _ | refine qI ?_ | refine qG ?_ _)); refine qX ?_ NB197_206.out _; (with_reducible repeat (first | refine qH ?_ _ | refine qI ?_ | refine qG ?_ _)); refine qX ?_ NB197_206.out _; (with_reducible repeat (first | refine qH ?_ _ | refine qI ?_ | refine qG ?_ _)); refine qX ?_ NB197_206.out _; (with_reducible repeat (first | refine qH ?_ _ | refine qI ?_ | refine qG ?_ _)); exact BK197.out⟩, ⟨by (with_reducible repeat (first | refine qH ?_ _ | refine qI ?_ | refine qG ?_ _)); refine qU (cs := #[.slice Ao23 t198.length co23, .slice Ao27 t201.length co27, .int .i64 t204, .int .i64 0]) ?_ 3 _ rfl; (with_reducible repeat (first | refine qH ?_ _ | refine qI ?_ | refine qG ?_ _)); refine qU (cs := #[.slice Ao23 t198.length co23, .slice Ao27 t201.length co27, .int .i64 0, .int .i64 0]) ?_ 2 _ rfl; (with_reducible repeat (first | refine qH ?_ _ | refine qI ?_ | refine qG ?_ _)); refine qU (cs := #[.slice Ao23 t198.length co23, .slice none 0 0, .int .i64 0, .int .i64 0]) ?_ 1 _ rfl; (with_reducible repeat (first | refine qH ?_ _ | refine qI ?_ | refine qG ?_ _)); refine qU (cs := #[.slice none 0 0, .slice none 0 0, .int .i64 0, .int .i64 0]) ?_ 0 _ rfl; (with_reducible repeat (first | refine qH ?_ _ | refine qI ?_ | refine qG ?_ _)); exact BK206.out⟩, ⟨by repeat (first | (with_reducible first | exact HB.out | apply qE | apply qA | apply qD | refine qF ?_ GE196.out | refine qF ?_ GE197.out | refine qF ?_ GE206.out) | exact HB.out)⟩⟩
    case round =>
      clear H'
      try clear c1
      try clear c2
      try clear p2
      try clear c3
      try clear c3b0
      try clear c3b1
      try clear c6
      try clear c11
      try clear c12
      try clear c19
      try clear c24
      try clear c25
      try clear hcz13_0
      try clear hcz13_1
      try clear hcz13_2
      try clear hcz13_3
      try clear hcz15_0
      try clear hcz15_1
      try clear hcz15_2
      try clear hcz15_3
      try clear hcz16_0
      try clear hcz16_1
      try clear hcz16_2
      try clear hcz16_3
      try clear hcz20_0
      try clear hcz20_1
      try clear hcz20_2
      try clear hcz20_3
      try clear hcz26_0
      try clear hcz26_1
      try clear hcz26_2
      try clear hcz26_3
      try clear hcz28_0
      try clear hcz28_1
      try clear hcz28_2
      try clear hcz28_3
      try clear hcz7_0
      try clear hcz7_1
      try clear hcz7_2
      try clear hcz7_3
      try clear hfz13_0
      try clear hfz13_1
      try clear hfz13_2
      try clear hfz13_3
      try clear hfz15_0
      try clear hfz15_1
      try clear hfz15_2
      try clear hfz15_3
      try clear hfz16_0
      try clear hfz16_1
      try clear hfz16_2
      try clear hfz16_3
      try clear hfz20_0
      try clear hfz20_1
      try clear hfz20_2
      try clear hfz20_3
      try clear hfz26_0
      try clear hfz26_1
      try clear hfz26_2
      try clear hfz26_3
      try clear hfz28_0
      try clear hfz28_1
      try clear hfz28_2
      try clear hfz28_3
      try clear hfz7_0
      try clear hfz7_1
      try clear hfz7_2
      try clear hfz7_3
      obtain ⟨x4_1, x207000_1, u207000, rfl, HA, HK1, HO_207000, HO_207001, BK196, BK197, BK206, HB⟩ := hrel
      cases gk with
      | zero => exact absurd HA.out (by simp [spec_l7Sync.l0])
      | succ k1 =>
        have H := HA.out
        clear HA
        simp only [spec_l7Sync.l0] at H
        by_cases c29 : x4_1 < (l0_1.length : Int)
        · rw [if_pos c29] at H
          have c29b0 : decide (x4_1 < (l0_1.length : Int)) = true := decide_eq_true c29
          clear c29
          by_cases c30 : 0 ≤ x4_1
          · rw [if_pos c30] at H
            have c30b0 : decide (0 ≤ x4_1) = true := decide_eq_true c30
            clear c30
            by_cases c31 : 0 ≤ ((rd_T70 l0_1 x4_1).f0)
            · rw [if_pos c31] at H
              have c31b0 : decide (0 ≤ ((rd_T70 l0_1 x4_1).f0)) = true := decide_eq_true c31
              clear c31
              by_cases c32 : ((rd_T70 l0_1 x4_1).f0) < (x207000_1.length : Int)
              · rw [if_pos c32] at H
                have c32b0 : decide (((rd_T70 l0_1 x4_1).f0) < (x207000_1.length : Int)) = true := decide_eq_true c32
                clear c32
                obtain ⟨y209, hy209⟩ : ∃ y_ : List ByteArray, y_ = (x207000_1.set (((rd_T70 l0_1 x4_1).f0) : Int).toNat ((rd_T70 l0_1 x4_1).f1)) := ⟨_, rfl⟩
                replace H : (spec_l7Sync.l0 k1 (wrap64 (x4_1 + 1)) l0_0 l0_1 a0_2 a0_3 y209 t201 t204 t205) = some (r1, r2, r3, r4) := by first | (rw [hy209]; with_reducible exact H) | (have H2_ := (Option.bind_some _ _).symm.trans H; rw [hy209]; with_reducible exact H2_) | (have H2_ := (Option.bind_some _ _).symm.trans H; with_reducible exact H2_) | with_reducible exact H | (rw [hy209]; exact H) | exact H
                have Ny209 := Aside0.mk hy209
                clear hy209
                have H' := Aside0.mk H
                clear H
                have hnb34 := NB196_197.out
                have hnc34 := NB197_196.out
                have hnb35 := NB196_206.out
                have hnc35 := NB206_196.out
                have hcz36_0 : wr.cell? ⟨gb196, 0, none⟩ = some (.slice A0_0 l0_0.length c0_0) := (qC BK196.out 0).trans rfl
                have hcz36_1 : wr.cell? ⟨gb196, 1, none⟩ = some (.slice A0_1 l0_1.length c0_1) := (qC BK196.out 1).trans rfl
                have hcz36_2 : wr.cell? ⟨gb196, 2, none⟩ = some (.int .i64 a0_2) := (qC BK196.out 2).trans rfl
                have hcz36_3 : wr.cell? ⟨gb196, 3, none⟩ = some (.int .i64 a0_3) := (qC BK196.out 3).trans rfl
                have hfz36_0 := qB BK196.out 0
                have hfz36_1 := qB BK196.out 1
                have hfz36_2 := qB BK196.out 2
                have hfz36_3 := qB BK196.out 3
                try go_wp2
                have n0_ := Aside0.mk (Kd.qO HO_207000.out)
                have n1_ := Aside0.mk (Kd.qO HO_207001.out)
                have n2_ := Aside0.mk (qI BK196.out)
                have n3_ := Aside0.mk (qI BK197.out)
                have n4_ := Aside0.mk (qI BK206.out)
                have n5_ := Aside0.mk (qD HB.out)
                clear HO_207000
                clear HO_207001
                clear BK196
                clear BK197
                clear BK206
                clear HB
                have HO_207000 := n0_
                have HO_207001 := n1_
                have BK196 := n2_
                have BK197 := n3_
                have BK206 := n4_
                have HB := n5_
                clear n0_ n1_ n2_ n3_ n4_ n5_
                have p207 : 0 ≤ (x4_1 : Int) := of_decide_eq_true (by first | (with_reducible assumption) | assumption)
                have q207 : x4_1 < (l0_1.length : Int) := of_decide_eq_true (by first | (with_reducible assumption) | assumption)
                obtain ⟨ad207, e207, hx207_0, hx207_1⟩ := at_T70 HR0_1.out x4_1 p207 q207
                have hw207_1 := hx207_1
                have hw207_0 := hx207_0
                cases e207
                replace hx207_0 := (HB.out.cell (World.block_lt_of_cell? w _ hx207_0)).trans hx207_0
                replace hx207_1 := (HB.out.cell (World.block_lt_of_cell? w _ hx207_1)).trans hx207_1
                replace p207 := eq_true p207
                replace q207 := eq_true q207
                have p208 : 0 ≤ (x4_1 : Int) := of_decide_eq_true (by first | (with_reducible assumption) | assumption)
                have q208 : x4_1 < (l0_1.length : Int) := of_decide_eq_true (by first | (with_reducible assumption) | assumption)
                obtain ⟨ad208, e208, hx208_0, hx208_1⟩ := at_T70 HR0_1.out x4_1 p208 q208
                have hw208_1 := hx208_1
                have hw208_0 := hx208_0
                obtain rfl : ad207 = ad208 := (by injection e208)
                replace hx208_0 := (HB.out.cell (World.block_lt_of_cell? w _ hx208_0)).trans hx208_0
                replace hx208_1 := (HB.out.cell (World.block_lt_of_cell? w _ hx208_1)).trans hx208_1
                replace p208 := eq_true p208
                replace q208 := eq_true q208
                have p33 : 0 ≤ (((rd_T70 l0_1 x4_1).f0) : Int) := of_decide_eq_true (by first | (with_reducible assumption) | assumption)
                have q33 : (((rd_T70 l0_1 x4_1).f0) : Int) < ((x207000_1.length : Int) : Int) := of_decide_eq_true (by first | (with_reducible assumption) | assumption)
                obtain ⟨go33, co33, eo33, gb33, gl33, cl33, HG33⟩ := Kd.R_form HO_207000.out (by omega)
                (first | cases eo33 | (injection eo33 with ea_ en_ ec_; (first | subst ea_ | (injection ea_ with ea_; subst ea_)); subst ec_; clear en_))
                have GB33 := Aside0.mk gb33
                have GG33 := Aside0.mk HG33
                clear gb33 gl33 HG33
                obtain ⟨hx33_0, hf33_0⟩ := Kd.R_celln (⟨#[]⟩ : ByteArray) HO_207000.out (((rd_T70 l0_1 x4_1).f0) : Int) p33 q33
                replace p33 := eq_true p33
                replace q33 := eq_true q33
                have HP38 := Kd.R_putn HO_207000.out (((rd_T70 l0_1 x4_1).f0) : Int) ((rd_T70 l0_1 x4_1).f1)
                rw [← Ny209.out] at HP38
                have HQ38 := Aside0.mk HP38
                clear HP38
                refine start_ (n := 16) (S := fun w' => w'.cell? ⟨gb206, 0, none⟩ = some (.slice (some ⟨go33, 0, none⟩) x207000_1.length co33) ∧ w'.cell? ⟨gb206, 1, none⟩ = some (.slice Ao27 t201.length co27) ∧ w'.cell? ⟨gb206, 2, none⟩ = some (.int .i64 t204) ∧ w'.cell? ⟨gb206, 3, none⟩ = some (.int .i64 t205) ∧ w'.cell? ⟨gb196, 0, none⟩ = some (.slice A0_0 l0_0.length c0_0) ∧ w'.cell? ⟨gb196, 1, none⟩ = some (.slice (some ad207) l0_1.length c0_1) ∧ w'.cell? ⟨gb196, 2, none⟩ = some (.int .i64 a0_2) ∧ w'.cell? ⟨gb196, 3, none⟩ = some (.int .i64 a0_3) ∧ w'.cell? (ad207.add ((x4_1).toNat * 2)) = some (.int .i64 ((rd_T70 l0_1 x4_1).f0)) ∧ w'.cell? ⟨(ad207.add ((x4_1).toNat * 2)).block, (ad207.add ((x4_1).toNat * 2)).off + 1, none⟩ = some (.string ((rd_T70 l0_1 x4_1).f1)) ∧ w'.cell? (ad207.add ((x4_1).toNat * 2)) = some (.int .i64 ((rd_T70 l0_1 x4_1).f0)) ∧ w'.cell? ⟨(ad207.add ((x4_1).toNat * 2)).block, (ad207.add ((x4_1).toNat * 2)).off + 1, none⟩ = some (.string ((rd_T70 l0_1 x4_1).f1))) (ds := [15]) #[false, false, false, false, false, false, false, false, false, false, false, false, false, false, false, false] (by kernel_rfl) rfl rfl ⟨(qC BK206.out 0).trans rfl, (qC BK206.out 1).trans rfl, (qC BK206.out 2).trans rfl, (qC BK206.out 3).trans rfl, (qC BK196.out 0).trans rfl, (qC BK196.out 1).trans rfl, (qC BK196.out 2).trans rfl, (qC BK196.out 3).trans rfl, ((HB.out.cell (World.block_lt_of_cell? w _ hw207_0)).trans hw207_0), ((HB.out.cell (World.block_lt_of_cell? w _ hw207_1)).trans hw207_1), ((HB.out.cell (World.block_lt_of_cell? w _ hw208_0)).trans hw208_0), ((HB.out.cell (World.block_lt_of_cell? w _ hw208_1)).trans hw208_1)⟩ (fun hHeld => ?_); refine with_tabW spec_l7Sync.tab7 spec_l7Sync.bits7 (fun HT_ HW_ => ?_)
                generalize wr.drew = w37 at HO_207000 HO_207001 BK196 BK197 BK206 HB GG33 HQ38 hf33_0 hx207_0 hx207_1 hx208_0 hx208_1 hx33_0 hHeld ⊢
                refine pure_ (i := 0) (N := some 18) (v := ?_) (a' := ?_) #[true, false, false, false, false, false, false, false, false, false, false, false, false, false, false, false] rfl rfl (zH HT_.out (by kernel_rfl)) (fun _ _ _ h => h) (Or.inl ⟨by rfl, ?_⟩) ?_ ?_
                rotate_left
                · intro w'
                  go_simp
                  with_reducible rfl
                rotate_left
                · simp only [Act.put, List.setIfInBounds_toArray, List.set_cons_zero, List.set_cons_succ, i64_w, i32_w]
                  rfl
                refine pure_ (i := 2) (N := some 20) (v := ?_) (a' := ?_) #[true, false, true, false, false, false, false, false, false, false, false, false, false, false, false, false] rfl rfl (zH HT_.out (by kernel_rfl)) (fun _ _ _ h => h) (Or.inl ⟨by rfl, ?_⟩) ?_ ?_
                rotate_left
                · intro w'
                  go_simp
                  with_reducible rfl
                rotate_left
                · simp only [Act.put, List.setIfInBounds_toArray, List.set_cons_zero, List.set_cons_succ, i64_w, i32_w]
                  rfl
                refine pure_ (i := 4) (N := some 22) (v := ?_) (a' := ?_) #[true, false, true, false, true, false, false, false, false, false, false, false, false, false, false, false] rfl rfl (zH HT_.out (by kernel_rfl)) (fun _ _ _ h => h) (Or.inl ⟨by rfl, ?_⟩) ?_ ?_
                rotate_left
                · intro w'
                  go_simp
                  with_reducible rfl
                rotate_left
                · simp only [Act.put, List.setIfInBounds_toArray, List.set_cons_zero, List.set_cons_succ, i64_w, i32_w]
                  rfl
                refine pure_ (i := 8) (N := some 26) (v := ?_) (a' := ?_) #[true, false, true, false, true, false, false, false, true, false, false, false, false, false, false, false] rfl rfl (zH HT_.out (by kernel_rfl)) (fun _ _ _ h => h) (Or.inl ⟨by rfl, ?_⟩) ?_ ?_
                rotate_left
                · intro w'
                  go_simp
                  with_reducible rfl
                rotate_left
                · simp only [Act.put, List.setIfInBounds_toArray, List.set_cons_zero, List.set_cons_succ, i64_w, i32_w]
                  rfl
                refine pure_ (i := 10) (N := some 28) (v := ?_) (a' := ?_) #[true, false, true, false, true, false, false, false, true, false, true, false, false, false, false, false] rfl rfl (zH HT_.out (by kernel_rfl)) (fun _ _ _ h => h) (Or.inl ⟨by rfl, ?_⟩) ?_ ?_
                rotate_left
                · intro w'
                  go_simp
                  with_reducible rfl
                rotate_left
                · simp only [Act.put, List.setIfInBounds_toArray, List.set_cons_zero, List.set_cons_succ, i64_w, i32_w]
                  rfl
                refine take_ (i := 1) (N := some 19) (v := ?_) (a' := ?_) #[true, true, true, false, true, false, false, false, true, false, true, false, false, false, false, false] rfl rfl (zM HT_.out HW_.out (by kernel_rfl)) (fun _ _ _ h => h) (Or.inl ⟨by rfl, ?_⟩) hHeld ?_ ?_
                rotate_left
                · rintro w' ⟨s0, s1, s2, s3, s4, s5, s6, s7, s8, s9, s10, s11⟩
                  go_simp
                  with_reducible rfl
                rotate_left
                · simp only [Act.put, List.setIfInBounds_toArray, List.set_cons_zero, List.set_cons_succ, i64_w, i32_w]
                  rfl
                refine take_ (i := 3) (N := some 21) (v := ?_) (a' := ?_) #[true, true, true, true, true, false, false, false, true, false, true, false, false, false, false, false] rfl rfl (zM HT_.out HW_.out (by kernel_rfl)) (fun _ _ _ h => h) (Or.inl ⟨by rfl, ?_⟩) hHeld ?_ ?_
                rotate_left
                · rintro w' ⟨s0, s1, s2, s3, s4, s5, s6, s7, s8, s9, s10, s11⟩
                  go_simp
                  with_reducible rfl
                rotate_left
                · simp only [Act.put, List.setIfInBounds_toArray, List.set_cons_zero, List.set_cons_succ, i64_w, i32_w]
                  rfl
                refine pure_ (i := 5) (N := some 23) (v := ?_) (a' := ?_) #[true, true, true, true, true, true, false, false, true, false, true, false, false, false, false, false] rfl rfl (zH HT_.out (by kernel_rfl)) (fun _ _ _ h => h) (Or.inl ⟨by rfl, ?_⟩) ?_ ?_
                rotate_left
                · intro w'
                  go_simp
                  with_reducible rfl
                rotate_left
                · simp only [Act.put, List.setIfInBounds_toArray, List.set_cons_zero, List.set_cons_succ, i64_w, i32_w]
                  rfl
                refine pure_ (i := 6) (N := some 24) (v := ?_) (a' := ?_) #[true, true, true, true, true, true, true, false, true, false, true, false, false, false, false, false] rfl rfl (zH HT_.out (by kernel_rfl)) (fun _ _ _ h => h) (Or.inl ⟨by rfl, ?_⟩) ?_ ?_
                rotate_left
                · intro w'
                  go_simp
                  with_reducible rfl
                rotate_left
                · simp only [Act.put, List.setIfInBounds_toArray, List.set_cons_zero, List.set_cons_succ, i64_w, i32_w]
                  rfl
                refine take_ (i := 7) (N := some 25) (v := ?_) (a' := ?_) #[true, true, true, true, true, true, true, true, true, false, true, false, false, false, false, false] rfl rfl (zM HT_.out HW_.out (by kernel_rfl)) (fun _ _ _ h => h) (Or.inl ⟨by rfl, ?_⟩) hHeld ?_ ?_
                rotate_left
                · rintro w' ⟨s0, s1, s2, s3, s4, s5, s6, s7, s8, s9, s10, s11⟩
                  go_simp
                  with_reducible rfl
                rotate_left
                · simp only [Act.put, List.setIfInBounds_toArray, List.set_cons_zero, List.set_cons_succ, i64_w, i32_w]
                  rfl
                refine take_ (i := 9) (N := some 27) (v := ?_) (a' := ?_) #[true, true, true, true, true, true, true, true, true, true, true, false, false, false, false, false] rfl rfl (zM HT_.out HW_.out (by kernel_rfl)) (fun _ _ _ h => h) (Or.inl ⟨by rfl, ?_⟩) hHeld ?_ ?_
                rotate_left
                · rintro w' ⟨s0, s1, s2, s3, s4, s5, s6, s7, s8, s9, s10, s11⟩
                  go_simp
                  with_reducible rfl
                rotate_left
                · simp only [Act.put, List.setIfInBounds_toArray, List.set_cons_zero, List.set_cons_succ, i64_w, i32_w]
                  rfl
                refine pure_ (i := 11) (N := some 29) (v := ?_) (a' := ?_) #[true, true, true, true, true, true, true, true, true, true, true, true, false, false, false, false] rfl rfl (zH HT_.out (by kernel_rfl)) (fun _ _ _ h => h) (Or.inl ⟨by rfl, ?_⟩) ?_ ?_
                rotate_left
                · intro w'
                  go_simp
                  with_reducible rfl
                rotate_left
                · simp only [Act.put, List.setIfInBounds_toArray, List.set_cons_zero, List.set_cons_succ, i64_w, i32_w]
                  rfl
                refine pure_ (i := 12) (N := some 30) (v := ?_) (a' := ?_) #[true, true, true, true, true, true, true, true, true, true, true, true, true, false, false, false] rfl rfl (zH HT_.out (by kernel_rfl)) (fun _ _ _ h => h) (Or.inl ⟨by rfl, ?_⟩) ?_ ?_
                rotate_left
                · intro w'
                  go_simp
                  with_reducible rfl
                rotate_left
                · simp only [Act.put, List.setIfInBounds_toArray, List.set_cons_zero, List.set_cons_succ, i64_w, i32_w]
                  rfl
                refine take_ (i := 13) (N := some 31) (v := ?_) (a' := ?_) #[true, true, true, true, true, true, true, true, true, true, true, true, true, true, false, false] rfl rfl (zM HT_.out HW_.out (by kernel_rfl)) (fun _ _ _ h => h) (Or.inl ⟨by rfl, ?_⟩) hHeld ?_ ?_
                rotate_left
                · rintro w' ⟨s0, s1, s2, s3, s4, s5, s6, s7, s8, s9, s10, s11⟩
                  go_simp
                  with_reducible rfl
                rotate_left
                · simp only [Act.put, List.setIfInBounds_toArray, List.set_cons_zero, List.set_cons_succ, i64_w, i32_w]
                  rfl
                refine pure_ (i := 14) (N := some 32) (v := ?_) (a' := ?_) #[true, true, true, true, true, true, true, true, true, true, true, true, true, true, true, false] rfl rfl (zH HT_.out (by kernel_rfl)) (fun _ _ _ h => h) (Or.inl ⟨by rfl, ?_⟩) ?_ ?_
                rotate_left
                · intro w'
                  go_simp
                  with_reducible rfl
                rotate_left
                · simp only [Act.put, List.setIfInBounds_toArray, List.set_cons_zero, List.set_cons_succ, i64_w, i32_w]
                  rfl
                refine last_ (i := 15) (N := none) #[true, true, true, true, true, true, true, true, true, true, true, true, true, true, true, true] rfl rfl (one_of HT_.out (by kernel_rfl)) (by decide) (fun K hK => ?_)
                refine skip_ (w1 := ?_) (by rfl) rfl ?_ ?_
                rotate_left
                · go_simp
                  rfl
                refine hK.out _ _ ?_
                clear hK K
                refine done_ (done_of HT_.out (by kernel_rfl)) ?_
                try go_wp2
                go_roundg k1
                case measure => have := HK1.out; omega
                case rel => exact ⟨(wrap64 (x4_1 + 1)), (y209), (.slice (some ⟨go33, 0, none⟩) x207000_1.length co33), (by first | rfl | (simp; done) | (simp [*]; done)), H', ⟨by have := HK1.out; omega⟩, ⟨by (with_reducible repeat (first | apply Kd.qL | apply Kd.qK | apply Kd.qO)); exact HQ38.out⟩, ⟨by (with_reducible repeat (first | apply Kd.qL | apply Kd.qK | apply Kd.qO)); exact Kd.qV (Kd.R_far (p := ⟨go33, (((rd_T70 l0_1 x4_1).f0) : Int).toNat, none⟩) (Kd.qY HO_207001.out GG33.out (by decide)) (fun _ hk => hk.2) (.string ((rd_T70 l0_1 x4_1).f1))) (fun _ hk => trivial)⟩, ⟨by (with_reducible repeat (first | refine qH ?_ _ | refine qI ?_ | refine qG ?_ _)); refine qX ?_ (by have h_ := Kd.R_ne HO_207000.out BK196.out (by decide); intro e_; exact h_ (by rw [e_]; rfl)) _; (with_reducible repeat (first | refine qH ?_ _ | refine qI ?_ | refine qG ?_ _)); exact BK196.out⟩, ⟨by (with_reducible repeat (first | refine qH ?_ _ | refine qI ?_ | refine qG ?_ _)); refine qX ?_ (by have h_ := Kd.R_ne HO_207000.out BK197.out (by decide); intro e_; exact h_ (by rw [e_]; rfl)) _; (with_reducible repeat (first | refine qH ?_ _ | refine qI ?_ | refine qG ?_ _)); exact BK197.out⟩, ⟨by (with_reducible repeat (first | refine qH ?_ _ | refine qI ?_ | refine qG ?_ _)); refine qX ?_ (by have h_ := Kd.R_ne HO_207000.out BK206.out (by decide); intro e_; exact h_ (by rw [e_]; rfl)) _; (with_reducible repeat (first | refine qH ?_ _ | refine qI ?_ | refine qG ?_ _)); exact BK206.out⟩, ⟨by repeat (first | (with_reducible first | exact HB.out | apply qE | apply qA | apply qD | refine qF ?_ GB33.out | refine qF ?_ GE196.out | refine qF ?_ GE197.out | refine qF ?_ GE206.out) | exact HB.out)⟩⟩
              · rw [if_neg c32] at H
                exact absurd H (by simp)
            · rw [if_neg c31] at H
              exact absurd H (by simp)
          · rw [if_neg c30] at H
            exact absurd H (by simp)
        · rw [if_neg c29] at H
          have c29b0 : decide (x4_1 < (l0_1.length : Int)) = false := decide_eq_false c29
          clear c29
          replace H := Option.bind_eq_some_iff.mp H
          obtain ⟨t210, A390, H⟩ := H
          replace H : (some (x207000_1, ([] : List (S70)), t204, t210)) = some (r1, r2, r3, r4) := H
          have A39 := Aside0.mk A390
          clear A390
          simp only [Option.some.injEq, Prod.mk.injEq] at H
          obtain ⟨rfl, rfl, rfl, rfl⟩ := H
          have hnb40 := NB196_197.out
          have hnc40 := NB197_196.out
          have hnb41 := NB196_206.out
          have hnc41 := NB206_196.out
          have hcz42_0 : wr.cell? ⟨gb196, 0, none⟩ = some (.slice A0_0 l0_0.length c0_0) := (qC BK196.out 0).trans rfl
          have hcz42_1 : wr.cell? ⟨gb196, 1, none⟩ = some (.slice A0_1 l0_1.length c0_1) := (qC BK196.out 1).trans rfl
          have hcz42_2 : wr.cell? ⟨gb196, 2, none⟩ = some (.int .i64 a0_2) := (qC BK196.out 2).trans rfl
          have hcz42_3 : wr.cell? ⟨gb196, 3, none⟩ = some (.int .i64 a0_3) := (qC BK196.out 3).trans rfl
          have hfz42_0 := qB BK196.out 0
          have hfz42_1 := qB BK196.out 1
          have hfz42_2 := qB BK196.out 2
          have hfz42_3 := qB BK196.out 3
          have hnb43 := NB206_197.out
          have hnc43 := NB197_206.out
          have hcz44_0 : wr.cell? ⟨gb206, 0, none⟩ = some (u207000) := (qC BK206.out 0).trans rfl
          have hcz44_1 : wr.cell? ⟨gb206, 1, none⟩ = some (.slice Ao27 t201.length co27) := (qC BK206.out 1).trans rfl
          have hcz44_2 : wr.cell? ⟨gb206, 2, none⟩ = some (.int .i64 t204) := (qC BK206.out 2).trans rfl
          have hcz44_3 : wr.cell? ⟨gb206, 3, none⟩ = some (.int .i64 t205) := (qC BK206.out 3).trans rfl
          have hfz44_0 := qB BK206.out 0
          have hfz44_1 := qB BK206.out 1
          have hfz44_2 := qB BK206.out 2
          have hfz44_3 := qB BK206.out 3
          go_wp2_with (first | ((with_reducible refine qQ (f := 69) rfl ?_); refine zD (some 36) rfl rfl Try.func69 (by kernel_rfl) rfl #[.int .i64 a0_3] rfl (by (try simp only [List.map_toArray, List.map_cons, List.map_nil]); first | done | rfl | (simp only [List.length_drop, List.length_take]; rfl)) ?_; (with_reducible refine (spec_l7Less.calls a0_3 t210 _ A39.out).mono ?_); rintro e w' ⟨rfl, ⟨nd, rfl⟩⟩; refine ⟨_, rfl, ?_⟩; obtain ⟨Ao45, co45, eo45⟩ := Kd.zF HO_207000.out; subst eo45; have hcz46_0 : wr.cell? ⟨gb197, 0, none⟩ = some (.slice none 0 0) := (qC BK197.out 0).trans rfl; have hcz46_1 : wr.cell? ⟨gb197, 1, none⟩ = some (.slice none 0 0) := (qC BK197.out 1).trans rfl; have hcz46_2 : wr.cell? ⟨gb197, 2, none⟩ = some (.int .i64 0) := (qC BK197.out 2).trans rfl; have hcz46_3 : wr.cell? ⟨gb197, 3, none⟩ = some (.int .i64 0) := (qC BK197.out 3).trans rfl; have hfz46_0 := qB BK197.out 0; have hfz46_1 := qB BK197.out 1; have hfz46_2 := qB BK197.out 2; have hfz46_3 := qB BK197.out 3))
          refine bodyPost_ret (results_cell_row rfl _ _ gb197 26 #[.slice Ao45 x207000_1.length co45, .slice none 0 0, .int .i64 t204, .int .i64 t210] (0, 0) _ rfl (by (with_reducible repeat (first | refine qH ?_ _ | refine qI ?_ | refine qG ?_ _)); refine qU (cs := #[.slice Ao45 x207000_1.length co45, .slice none 0 0, .int .i64 t204, .int .i64 0]) ?_ 3 _ rfl; (with_reducible repeat (first | refine qH ?_ _ | refine qI ?_ | refine qG ?_ _)); refine qU (cs := #[.slice Ao45 x207000_1.length co45, .slice none 0 0, .int .i64 0, .int .i64 0]) ?_ 2 _ rfl; (with_reducible repeat (first | refine qH ?_ _ | refine qI ?_ | refine qG ?_ _)); refine qU (cs := #[.slice Ao45 x207000_1.length co45, .slice none 0 0, .int .i64 0, .int .i64 0]) ?_ 1 _ rfl; (with_reducible repeat (first | refine qH ?_ _ | refine qI ?_ | refine qG ?_ _)); refine qU (cs := #[.slice none 0 0, .slice none 0 0, .int .i64 0, .int .i64 0]) ?_ 0 _ rfl; (with_reducible repeat (first | refine qH ?_ _ | refine qI ?_ | refine qG ?_ _)); refine qX ?_ NB197_206.out _; (with_reducible repeat (first | refine qH ?_ _ | refine qI ?_ | refine qG ?_ _)); refine qX ?_ NB197_206.out _; (with_reducible repeat (first | refine qH ?_ _ | refine qI ?_ | refine qG ?_ _)); exact BK197.out) Try.underlying26 rfl (by kernel_rfl)) rfl ?_
          exact ⟨_, _, by first | rfl | (simp [errW_none, errW_some] <;> rfl) | (simp [*, errW_none, errW_some] <;> rfl), by (with_reducible repeat (first | apply Kd.qL | apply Kd.qK | apply Kd.qO)); exact Kd.qV (Kd.R_far (p := ⟨gb197, 3, none⟩) (Kd.R_far (p := ⟨gb197, 2, none⟩) (Kd.R_far (p := ⟨gb197, 1, none⟩) (Kd.R_far (p := ⟨gb197, 0, none⟩) (Kd.R_far (p := ⟨gb206, 3, none⟩) (Kd.R_far (p := ⟨gb206, 1, none⟩) (Kd.qY (Kd.qY HO_207000.out BK206.out (by decide)) BK197.out (by decide)) (fun _ hk => hk.1.2) (.slice none 0 0)) (fun _ hk => hk.1.2) (.int .i64 t210)) (fun _ hk => hk.2) (.slice Ao45 x207000_1.length co45)) (fun _ hk => hk.2) (.slice none 0 0)) (fun _ hk => hk.2) (.int .i64 t204)) (fun _ hk => hk.2) (.int .i64 t210)) (fun _ hk => trivial), by first | exact Kd.R_nil _ _ _ _ _ | exact Kd.N_nil _ _ _ _ _ | exact Kd.V_nil _ _ _ _ _ | exact Kd.Q_nil _ _ _ _ _ | exact Kd.S_nil _ _ _ _ _, by repeat (first | (with_reducible first | exact HB.out | apply qE | apply qA | apply qD | refine qF ?_ GE196.out | refine qF ?_ GE197.out | refine qF ?_ GE206.out) | exact HB.out)⟩

/-! ### spec_DiskSync: function 29 -/
def spec_DiskSync.f (k : Nat) (l0_0 : List ByteArray) (l0_1 : List (S70)) (a0_2 : Int) (a0_3 : Int) : Option (List ByteArray × (List (S70)) × Int × Int) := (spec_l7Ok.f k l0_0 l0_1 a0_2 a0_3).bind fun t213 => (if t213 = true then ((spec_l7Sync.f k l0_0 l0_1 a0_2 a0_3).bind fun bt214 => (some (bt214.1, bt214.2.1, bt214.2.2.1, bt214.2.2.2))) else (some (([] : List ByteArray), ([] : List (S70)), 0, 0)))
theorem spec_DiskSync.mono : ∀ a0 a1 a2 a3 k, LeO (spec_DiskSync.f k a0 a1 a2 a3) (spec_DiskSync.f (k + 1) a0 a1 a2 a3) := by
  intro a0 a1 a2 a3 k
  unfold spec_DiskSync.f
  repeat' first
      | (with_reducible exact spec_l7Ok.mono _ _ _ _ _)
      | (with_reducible exact spec_l7Sync.mono _ _ _ _ _)
      | (with_reducible exact LeO.refl _)
      | (with_reducible exact LeO.none _)
      | (with_reducible refine LeO.ite ?_ ?_)
      | (with_reducible refine LeO.bind ?_ (fun _ => ?_))
      | exact spec_l7Ok.mono _ _ _ _ _
      | exact spec_l7Sync.mono _ _ _ _ _
      | exact LeO.none _
      | refine LeO.ite ?_ ?_
      | refine LeO.bind ?_ (fun _ => ?_)
set_option maxHeartbeats 8000000 in
set_option maxRecDepth 100000 in
theorem spec_DiskSync.calls (k : Nat) (A0_0 : Option Addr) (c0_0 : Nat) (l0_0 : List ByteArray) (A0_1 : Option Addr) (c0_1 : Nat) (l0_1 : List (S70)) (a0_2 : Int) (a0_3 : Int) (r1 : List ByteArray) (r2 : List (S70)) (r3 : Int) (r4 : Int) (w : World) (hr0_0 : Kd.C Kd.string w A0_0 l0_0.length l0_0) (hc0_0 : l0_0.length ≤ c0_0) (hr0_1 : Kd.C k70 w A0_1 l0_1.length l0_1) (hc0_1 : l0_1.length ≤ c0_1) (h : spec_DiskSync.f k l0_0 l0_1 a0_2 a0_3 = some (r1, r2, r3, r4)) :
    Calls Try.prog 29 #[.agg #[.slice A0_0 l0_0.length c0_0, .slice A0_1 l0_1.length c0_1, .int .i64 a0_2, .int .i64 a0_3]] w fun e w' => ∃ v0_ v1_ : Value, e = .returned (.agg #[v0_, v1_, .int .i64 r3, .int .i64 r4]) ∧ Kd.R Kd.string 9 w' w.heap.size (fun _ => True) v0_ r1 ∧ Kd.R k70 70 w' w.heap.size (fun _ => True) v1_ r2 ∧ Below w.heap.size w w' := by
  have hu26 := Try.underlying26
  have HR0_0 := Aside0.mk hr0_0
  have HC0_0 := Aside0.mk hc0_0
  clear hr0_0 hc0_0
  have HR0_1 := Aside0.mk hr0_1
  have HC0_1 := Aside0.mk hc0_1
  clear hr0_1 hc0_1
  have HB := Aside0.mk (Below.refl w.heap.size w)
  have H : ((spec_l7Ok.f k l0_0 l0_1 a0_2 a0_3).bind fun t213 => (if t213 = true then ((spec_l7Sync.f k l0_0 l0_1 a0_2 a0_3).bind fun bt214 => (some (bt214.1, bt214.2.1, bt214.2.2.1, bt214.2.2.2))) else (some (([] : List ByteArray), ([] : List (S70)), 0, 0)))) = some (r1, r2, r3, r4) := h
  clear h
  replace H := Option.bind_eq_some_iff.mp H
  obtain ⟨t213, A20, H⟩ := H
  replace H : (if t213 = true then ((spec_l7Sync.f k l0_0 l0_1 a0_2 a0_3).bind fun bt214 => (some (bt214.1, bt214.2.1, bt214.2.2.1, bt214.2.2.2))) else (some (([] : List ByteArray), ([] : List (S70)), 0, 0))) = some (r1, r2, r3, r4) := H
  have A2 := Aside0.mk A20
  clear A20
  by_cases c3 : t213 = true
  · subst c3
    have H1 : ((spec_l7Sync.f k l0_0 l0_1 a0_2 a0_3).bind fun bt214 => (some (bt214.1, bt214.2.1, bt214.2.2.1, bt214.2.2.2))) = some (r1, r2, r3, r4) := by rw [if_pos rfl] at H; exact H
    clear H
    have H := H1
    clear H1
    replace H := Option.bind_eq_some_iff.mp H
    obtain ⟨⟨t214, t217, t220, t221⟩, A40, H⟩ := H
    replace H : (some (t214, t217, t220, t221)) = some (r1, r2, r3, r4) := H
    have A4 := Aside0.mk A40
    clear A40
    simp only [Option.some.injEq, Prod.mk.injEq] at H
    obtain ⟨rfl, rfl, rfl, rfl⟩ := H
    go_enter Try.func29, Try.ntmps29
    go_wp2_with (first | ((with_reducible refine qT (N := 1) rfl ?_); refine qR ?hg (N := 1) ?hd (cs := #[.slice A0_0 l0_0.length c0_0, .slice A0_1 l0_1.length c0_1, .int .i64 a0_2, .int .i64 a0_3]) (t := 26) ?hr ?_; (case hd => rfl); (case hg => rfl); (case hr => first | (go_simp; done) | (go_simp; rfl)); intro gb211 hg w5 hbox hb; have n0_ := Aside0.mk (qN (by repeat (first | (with_reducible first | exact HB.out | apply qE | apply qA | apply qD) | exact HB.out)) hb); have n1_ := Aside0.mk (hbox); have n2_ := Aside0.mk ((by rw [hg]; exact (qJ (by repeat (first | (with_reducible first | exact HB.out | apply qE | apply qA | apply qD) | exact HB.out))) : w.heap.size ≤ gb211)); have n3_ := Aside0.mk ((by rw [hg]; exact (qJ (by repeat (first | (with_reducible first | exact HB.out | apply qE | apply qA | apply qD) | exact HB.out))) : w.heap.size ≤ gb211)); clear HB; have HB := n0_; have BK211 := n1_; have GW211 := n2_; have GE211 := n3_; clear n0_ n1_ n2_ n3_; clear hb hbox hg) | ((with_reducible refine qT (N := 2) rfl ?_); refine qR ?hg (N := 2) ?hd (cs := #[.slice none 0 0, .slice none 0 0, .int .i64 0, .int .i64 0]) (t := 26) ?hr ?_; (case hd => rfl); (case hg => rfl); (case hr => first | (go_simp; done) | (go_simp; rfl)); intro gb212 hg w6 hbox hb; have n0_ := Aside0.mk (qM (g := gb211) (o := .cells #[.slice A0_0 l0_0.length c0_0, .slice A0_1 l0_1.length c0_1, .int .i64 a0_2, .int .i64 a0_3] 26 (0, 0)) (by (with_reducible repeat (first | refine qH ?_ _ | refine qI ?_ | refine qG ?_ _)); exact BK211.out) hb); have n1_ := Aside0.mk (qN (by repeat (first | (with_reducible first | exact HB.out | apply qE | apply qA | apply qD | refine qF ?_ GE211.out) | exact HB.out)) hb); have n2_ := Aside0.mk (hbox); have n3_ := Aside0.mk ((by rw [hg]; exact (qJ (by repeat (first | (with_reducible first | exact HB.out | apply qE | apply qA | apply qD | refine qF ?_ GE211.out) | exact HB.out))) : w.heap.size ≤ gb212)); have n4_ := Aside0.mk ((by rw [hg]; exact (qJ (by repeat (first | (with_reducible first | exact HB.out | apply qE | apply qA | apply qD | refine qF ?_ GE211.out) | exact HB.out))) : w.heap.size ≤ gb212)); have n5_ := Aside0.mk ((by rw [hg]; exact Nat.ne_of_lt (zB (g := gb211) (o := .cells #[.slice A0_0 l0_0.length c0_0, .slice A0_1 l0_1.length c0_1, .int .i64 a0_2, .int .i64 a0_3] 26 (0, 0)) (by (with_reducible repeat (first | refine qH ?_ _ | refine qI ?_ | refine qG ?_ _)); exact BK211.out)) : gb211 ≠ gb212)); have n6_ := Aside0.mk ((by rw [hg]; exact Nat.ne_of_gt (zB (g := gb211) (o := .cells #[.slice A0_0 l0_0.length c0_0, .slice A0_1 l0_1.length c0_1, .int .i64 a0_2, .int .i64 a0_3] 26 (0, 0)) (by (with_reducible repeat (first | refine qH ?_ _ | refine qI ?_ | refine qG ?_ _)); exact BK211.out)) : gb212 ≠ gb211)); clear BK211; clear HB; have BK211 := n0_; have HB := n1_; have BK212 := n2_; have GW212 := n3_; have GE212 := n4_; have NB211_212 := n5_; have NB212_211 := n6_; clear n0_ n1_ n2_ n3_ n4_ n5_ n6_; clear hb hbox hg; have hnb7 := NB211_212.out; have hnc7 := NB212_211.out; have hcz8_0 : w6.cell? ⟨gb211, 0, none⟩ = some (.slice A0_0 l0_0.length c0_0) := (qC BK211.out 0).trans rfl; have hcz8_1 : w6.cell? ⟨gb211, 1, none⟩ = some (.slice A0_1 l0_1.length c0_1) := (qC BK211.out 1).trans rfl; have hcz8_2 : w6.cell? ⟨gb211, 2, none⟩ = some (.int .i64 a0_2) := (qC BK211.out 2).trans rfl; have hcz8_3 : w6.cell? ⟨gb211, 3, none⟩ = some (.int .i64 a0_3) := (qC BK211.out 3).trans rfl; have hfz8_0 := qB BK211.out 0; have hfz8_1 := qB BK211.out 1; have hfz8_2 := qB BK211.out 2; have hfz8_3 := qB BK211.out 3) | ((with_reducible refine qQ (f := 37) rfl ?_); refine zD (some 4) rfl rfl Try.func37 (by kernel_rfl) rfl #[.agg #[.slice A0_0 l0_0.length c0_0, .slice A0_1 l0_1.length c0_1, .int .i64 a0_2, .int .i64 a0_3]] rfl (by (try simp only [List.map_toArray, List.map_cons, List.map_nil]); first | done | rfl | (simp only [List.length_drop, List.length_take]; rfl)) ?_; (with_reducible refine (spec_l7Ok.calls k _ _ l0_0 _ _ l0_1 a0_2 a0_3 true _ ?side1 ?side2 ?side3 ?side4 A2.out).mono ?_); (case side1 => repeat (first | exact (Kd.qW HR0_0.out HB.out) | (with_reducible refine Kd.qZ ?_ _) | (with_reducible refine Kd.zA ?_ _) | (with_reducible refine Kd.zC ?_))); (case side2 => exact HC0_0.out); (case side3 => repeat (first | exact (Kd.qW HR0_1.out HB.out) | (with_reducible refine Kd.qZ ?_ _) | (with_reducible refine Kd.zA ?_ _) | (with_reducible refine Kd.zC ?_))); (case side4 => exact HC0_1.out); rintro e w9 ⟨rfl, hb⟩; refine ⟨_, rfl, ?_⟩; have n0_ := Aside0.mk (qM (g := gb211) (o := .cells #[.slice A0_0 l0_0.length c0_0, .slice A0_1 l0_1.length c0_1, .int .i64 a0_2, .int .i64 a0_3] 26 (0, 0)) (by (with_reducible repeat (first | refine qH ?_ _ | refine qI ?_ | refine qG ?_ _)); exact BK211.out) hb); have n1_ := Aside0.mk (qM (g := gb212) (o := .cells #[.slice none 0 0, .slice none 0 0, .int .i64 0, .int .i64 0] 26 (0, 0)) (by (with_reducible repeat (first | refine qH ?_ _ | refine qI ?_ | refine qG ?_ _)); exact BK212.out) hb); have n2_ := Aside0.mk (qN (by repeat (first | (with_reducible first | exact HB.out | apply qE | apply qA | apply qD | refine qF ?_ GE211.out | refine qF ?_ GE212.out) | exact HB.out)) hb); clear BK211; clear BK212; clear HB; have BK211 := n0_; have BK212 := n1_; have HB := n2_; clear n0_ n1_ n2_; (try clear hb); (try clear hb2); (try clear hk); (try clear hi); have hcz10_0 : w9.cell? ⟨gb211, 0, none⟩ = some (.slice A0_0 l0_0.length c0_0) := (qC BK211.out 0).trans rfl; have hcz10_1 : w9.cell? ⟨gb211, 1, none⟩ = some (.slice A0_1 l0_1.length c0_1) := (qC BK211.out 1).trans rfl; have hcz10_2 : w9.cell? ⟨gb211, 2, none⟩ = some (.int .i64 a0_2) := (qC BK211.out 2).trans rfl; have hcz10_3 : w9.cell? ⟨gb211, 3, none⟩ = some (.int .i64 a0_3) := (qC BK211.out 3).trans rfl; have hfz10_0 := qB BK211.out 0; have hfz10_1 := qB BK211.out 1; have hfz10_2 := qB BK211.out 2; have hfz10_3 := qB BK211.out 3) | ((with_reducible refine qQ (f := 61) rfl ?_); refine zD (some 8) rfl rfl Try.func61 (by kernel_rfl) rfl #[.agg #[.slice A0_0 l0_0.length c0_0, .slice A0_1 l0_1.length c0_1, .int .i64 a0_2, .int .i64 a0_3]] rfl (by (try simp only [List.map_toArray, List.map_cons, List.map_nil]); first | done | rfl | (simp only [List.length_drop, List.length_take]; rfl)) ?_; (with_reducible refine (spec_l7Sync.calls k _ _ l0_0 _ _ l0_1 a0_2 a0_3 t214 t217 t220 t221 _ ?side1 ?side2 ?side3 ?side4 A4.out).mono ?_); (case side1 => repeat (first | exact (Kd.qW HR0_0.out HB.out) | (with_reducible refine Kd.qZ ?_ _) | (with_reducible refine Kd.zA ?_ _) | (with_reducible refine Kd.zC ?_))); (case side2 => exact HC0_0.out); (case side3 => repeat (first | exact (Kd.qW HR0_1.out HB.out) | (with_reducible refine Kd.qZ ?_ _) | (with_reducible refine Kd.zA ?_ _) | (with_reducible refine Kd.zC ?_))); (case side4 => exact HC0_1.out); rintro e w11 ⟨v215, v218, rfl, ho0, ho1, hb⟩; refine ⟨_, rfl, ?_⟩; have n0_ := Aside0.mk (Kd.zG ho0 (qJ (by repeat (first | (with_reducible first | exact HB.out | apply qE | apply qA | apply qD | refine qF ?_ GE211.out | refine qF ?_ GE212.out) | exact HB.out)))); have n1_ := Aside0.mk (Kd.zG ho1 (qJ (by repeat (first | (with_reducible first | exact HB.out | apply qE | apply qA | apply qD | refine qF ?_ GE211.out | refine qF ?_ GE212.out) | exact HB.out)))); have n2_ := Aside0.mk (qM (g := gb211) (o := .cells #[.slice A0_0 l0_0.length c0_0, .slice A0_1 l0_1.length c0_1, .int .i64 a0_2, .int .i64 a0_3] 26 (0, 0)) (by (with_reducible repeat (first | refine qH ?_ _ | refine qI ?_ | refine qG ?_ _)); exact BK211.out) hb); have n3_ := Aside0.mk (qM (g := gb212) (o := .cells #[.slice none 0 0, .slice none 0 0, .int .i64 0, .int .i64 0] 26 (0, 0)) (by (with_reducible repeat (first | refine qH ?_ _ | refine qI ?_ | refine qG ?_ _)); exact BK212.out) hb); have n4_ := Aside0.mk (qN (by repeat (first | (with_reducible first | exact HB.out | apply qE | apply qA | apply qD | refine qF ?_ GE211.out | refine qF ?_ GE212.out) | exact HB.out)) hb); clear BK211; clear BK212; clear HB; have HO216 := n0_; have HO219 := n1_; have BK211 := n2_; have BK212 := n3_; have HB := n4_; clear n0_ n1_ n2_ n3_ n4_; (try clear hb); (try clear hb2); (try clear hk); (try clear hi); (try clear ho0); (try clear ho1); obtain ⟨Ao12, co12, eo12⟩ := Kd.zF HO216.out; subst eo12; have hcz13_0 : w11.cell? ⟨gb212, 0, none⟩ = some (.slice none 0 0) := (qC BK212.out 0).trans rfl; have hcz13_1 : w11.cell? ⟨gb212, 1, none⟩ = some (.slice none 0 0) := (qC BK212.out 1).trans rfl; have hcz13_2 : w11.cell? ⟨gb212, 2, none⟩ = some (.int .i64 0) := (qC BK212.out 2).trans rfl; have hcz13_3 : w11.cell? ⟨gb212, 3, none⟩ = some (.int .i64 0) := (qC BK212.out 3).trans rfl; have hfz13_0 := qB BK212.out 0; have hfz13_1 := qB BK212.out 1; have hfz13_2 := qB BK212.out 2; have hfz13_3 := qB BK212.out 3; obtain ⟨Ao14, co14, eo14⟩ := Kd.zF HO219.out; subst eo14))
    refine bodyPost_ret (results_cell_row rfl _ _ gb212 26 #[.slice Ao12 t214.length co12, .slice Ao14 t217.length co14, .int .i64 t220, .int .i64 t221] (0, 0) _ rfl (by (with_reducible repeat (first | refine qH ?_ _ | refine qI ?_ | refine qG ?_ _)); refine qU (cs := #[.slice Ao12 t214.length co12, .slice Ao14 t217.length co14, .int .i64 t220, .int .i64 0]) ?_ 3 _ rfl; (with_reducible repeat (first | refine qH ?_ _ | refine qI ?_ | refine qG ?_ _)); refine qU (cs := #[.slice Ao12 t214.length co12, .slice Ao14 t217.length co14, .int .i64 0, .int .i64 0]) ?_ 2 _ rfl; (with_reducible repeat (first | refine qH ?_ _ | refine qI ?_ | refine qG ?_ _)); refine qU (cs := #[.slice Ao12 t214.length co12, .slice none 0 0, .int .i64 0, .int .i64 0]) ?_ 1 _ rfl; (with_reducible repeat (first | refine qH ?_ _ | refine qI ?_ | refine qG ?_ _)); refine qU (cs := #[.slice none 0 0, .slice none 0 0, .int .i64 0, .int .i64 0]) ?_ 0 _ rfl; (with_reducible repeat (first | refine qH ?_ _ | refine qI ?_ | refine qG ?_ _)); exact BK212.out) Try.underlying26 rfl (by kernel_rfl)) rfl ?_
    exact ⟨_, _, by first | rfl | (simp [errW_none, errW_some] <;> rfl) | (simp [*, errW_none, errW_some] <;> rfl), by (with_reducible repeat (first | apply Kd.qL | apply Kd.qK | apply Kd.qO)); exact Kd.qV (Kd.R_far (p := ⟨gb212, 3, none⟩) (Kd.R_far (p := ⟨gb212, 2, none⟩) (Kd.R_far (p := ⟨gb212, 1, none⟩) (Kd.R_far (p := ⟨gb212, 0, none⟩) (Kd.qY HO216.out BK212.out (by decide)) (fun _ hk => hk.2) (.slice Ao12 t214.length co12)) (fun _ hk => hk.2) (.slice Ao14 t217.length co14)) (fun _ hk => hk.2) (.int .i64 t220)) (fun _ hk => hk.2) (.int .i64 t221)) (fun _ hk => trivial), by (with_reducible repeat (first | apply Kd.qL | apply Kd.qK | apply Kd.qO)); exact Kd.qV (Kd.R_far (p := ⟨gb212, 3, none⟩) (Kd.R_far (p := ⟨gb212, 2, none⟩) (Kd.R_far (p := ⟨gb212, 1, none⟩) (Kd.R_far (p := ⟨gb212, 0, none⟩) (Kd.qY HO219.out BK212.out (by decide)) (fun _ hk => hk.2) (.slice Ao12 t214.length co12)) (fun _ hk => hk.2) (.slice Ao14 t217.length co14)) (fun _ hk => hk.2) (.int .i64 t220)) (fun _ hk => hk.2) (.int .i64 t221)) (fun _ hk => trivial), by repeat (first | (with_reducible first | exact HB.out | apply qE | apply qA | apply qD | refine qF ?_ GE211.out | refine qF ?_ GE212.out) | exact HB.out)⟩
  · replace c3 := Bool.eq_false_iff.mpr c3
    subst c3
    have H1 : (some (([] : List ByteArray), ([] : List (S70)), 0, 0)) = some (r1, r2, r3, r4) := by rw [if_neg (show ¬ (false = true) by decide)] at H; exact H
    clear H
    have H := H1
    clear H1
    simp only [Option.some.injEq, Prod.mk.injEq] at H
    obtain ⟨rfl, rfl, rfl, rfl⟩ := H
    go_enter Try.func29, Try.ntmps29
    go_wp2_with (first | ((with_reducible refine qT (N := 1) rfl ?_); refine qR ?hg (N := 1) ?hd (cs := #[.slice A0_0 l0_0.length c0_0, .slice A0_1 l0_1.length c0_1, .int .i64 a0_2, .int .i64 a0_3]) (t := 26) ?hr ?_; (case hd => rfl); (case hg => rfl); (case hr => first | (go_simp; done) | (go_simp; rfl)); intro gb211 hg w15 hbox hb; have n0_ := Aside0.mk (qN (by repeat (first | (with_reducible first | exact HB.out | apply qE | apply qA | apply qD) | exact HB.out)) hb); have n1_ := Aside0.mk (hbox); have n2_ := Aside0.mk ((by rw [hg]; exact (qJ (by repeat (first | (with_reducible first | exact HB.out | apply qE | apply qA | apply qD) | exact HB.out))) : w.heap.size ≤ gb211)); have n3_ := Aside0.mk ((by rw [hg]; exact (qJ (by repeat (first | (with_reducible first | exact HB.out | apply qE | apply qA | apply qD) | exact HB.out))) : w.heap.size ≤ gb211)); clear HB; have HB := n0_; have BK211 := n1_; have GW211 := n2_; have GE211 := n3_; clear n0_ n1_ n2_ n3_; clear hb hbox hg) | ((with_reducible refine qT (N := 2) rfl ?_); refine qR ?hg (N := 2) ?hd (cs := #[.slice none 0 0, .slice none 0 0, .int .i64 0, .int .i64 0]) (t := 26) ?hr ?_; (case hd => rfl); (case hg => rfl); (case hr => first | (go_simp; done) | (go_simp; rfl)); intro gb212 hg w16 hbox hb; have n0_ := Aside0.mk (qM (g := gb211) (o := .cells #[.slice A0_0 l0_0.length c0_0, .slice A0_1 l0_1.length c0_1, .int .i64 a0_2, .int .i64 a0_3] 26 (0, 0)) (by (with_reducible repeat (first | refine qH ?_ _ | refine qI ?_ | refine qG ?_ _)); exact BK211.out) hb); have n1_ := Aside0.mk (qN (by repeat (first | (with_reducible first | exact HB.out | apply qE | apply qA | apply qD | refine qF ?_ GE211.out) | exact HB.out)) hb); have n2_ := Aside0.mk (hbox); have n3_ := Aside0.mk ((by rw [hg]; exact (qJ (by repeat (first | (with_reducible first | exact HB.out | apply qE | apply qA | apply qD | refine qF ?_ GE211.out) | exact HB.out))) : w.heap.size ≤ gb212)); have n4_ := Aside0.mk ((by rw [hg]; exact (qJ (by repeat (first | (with_reducible first | exact HB.out | apply qE | apply qA | apply qD | refine qF ?_ GE211.out) | exact HB.out))) : w.heap.size ≤ gb212)); have n5_ := Aside0.mk ((by rw [hg]; exact Nat.ne_of_lt (zB (g := gb211) (o := .cells #[.slice A0_0 l0_0.length c0_0, .slice A0_1 l0_1.length c0_1, .int .i64 a0_2, .int .i64 a0_3] 26 (0, 0)) (by (with_reducible repeat (first | refine qH ?_ _ | refine qI ?_ | refine qG ?_ _)); exact BK211.out)) : gb211 ≠ gb212)); have n6_ := Aside0.mk ((by rw [hg]; exact Nat.ne_of_gt (zB (g := gb211) (o := .cells #[.slice A0_0 l0_0.length c0_0, .slice A0_1 l0_1.length c0_1, .int .i64 a0_2, .int .i64 a0_3] 26 (0, 0)) (by (with_reducible repeat (first | refine qH ?_ _ | refine qI ?_ | refine qG ?_ _)); exact BK211.out)) : gb212 ≠ gb211)); clear BK211; clear HB; have BK211 := n0_; have HB := n1_; have BK212 := n2_; have GW212 := n3_; have GE212 := n4_; have NB211_212 := n5_; have NB212_211 := n6_; clear n0_ n1_ n2_ n3_ n4_ n5_ n6_; clear hb hbox hg; have hnb17 := NB211_212.out; have hnc17 := NB212_211.out; have hcz18_0 : w16.cell? ⟨gb211, 0, none⟩ = some (.slice A0_0 l0_0.length c0_0) := (qC BK211.out 0).trans rfl; have hcz18_1 : w16.cell? ⟨gb211, 1, none⟩ = some (.slice A0_1 l0_1.length c0_1) := (qC BK211.out 1).trans rfl; have hcz18_2 : w16.cell? ⟨gb211, 2, none⟩ = some (.int .i64 a0_2) := (qC BK211.out 2).trans rfl; have hcz18_3 : w16.cell? ⟨gb211, 3, none⟩ = some (.int .i64 a0_3) := (qC BK211.out 3).trans rfl; have hfz18_0 := qB BK211.out 0; have hfz18_1 := qB BK211.out 1; have hfz18_2 := qB BK211.out 2; have hfz18_3 := qB BK211.out 3) | ((with_reducible refine qQ (f := 37) rfl ?_); refine zD (some 4) rfl rfl Try.func37 (by kernel_rfl) rfl #[.agg #[.slice A0_0 l0_0.length c0_0, .slice A0_1 l0_1.length c0_1, .int .i64 a0_2, .int .i64 a0_3]] rfl (by (try simp only [List.map_toArray, List.map_cons, List.map_nil]); first | done | rfl | (simp only [List.length_drop, List.length_take]; rfl)) ?_; (with_reducible refine (spec_l7Ok.calls k _ _ l0_0 _ _ l0_1 a0_2 a0_3 false _ ?side1 ?side2 ?side3 ?side4 A2.out).mono ?_); (case side1 => repeat (first | exact (Kd.qW HR0_0.out HB.out) | (with_reducible refine Kd.qZ ?_ _) | (with_reducible refine Kd.zA ?_ _) | (with_reducible refine Kd.zC ?_))); (case side2 => exact HC0_0.out); (case side3 => repeat (first | exact (Kd.qW HR0_1.out HB.out) | (with_reducible refine Kd.qZ ?_ _) | (with_reducible refine Kd.zA ?_ _) | (with_reducible refine Kd.zC ?_))); (case side4 => exact HC0_1.out); rintro e w19 ⟨rfl, hb⟩; refine ⟨_, rfl, ?_⟩; have n0_ := Aside0.mk (qM (g := gb211) (o := .cells #[.slice A0_0 l0_0.length c0_0, .slice A0_1 l0_1.length c0_1, .int .i64 a0_2, .int .i64 a0_3] 26 (0, 0)) (by (with_reducible repeat (first | refine qH ?_ _ | refine qI ?_ | refine qG ?_ _)); exact BK211.out) hb); have n1_ := Aside0.mk (qM (g := gb212) (o := .cells #[.slice none 0 0, .slice none 0 0, .int .i64 0, .int .i64 0] 26 (0, 0)) (by (with_reducible repeat (first | refine qH ?_ _ | refine qI ?_ | refine qG ?_ _)); exact BK212.out) hb); have n2_ := Aside0.mk (qN (by repeat (first | (with_reducible first | exact HB.out | apply qE | apply qA | apply qD | refine qF ?_ GE211.out | refine qF ?_ GE212.out) | exact HB.out)) hb); clear BK211; clear BK212; clear HB; have BK211 := n0_; have BK212 := n1_; have HB := n2_; clear n0_ n1_ n2_; (try clear hb); (try clear hb2); (try clear hk); (try clear hi); have hcz20_0 : w19.cell? ⟨gb212, 0, none⟩ = some (.slice none 0 0) := (qC BK212.out 0).trans rfl; have hcz20_1 : w19.cell? ⟨gb212, 1, none⟩ = some (.slice none 0 0) := (qC BK212.out 1).trans rfl; have hcz20_2 : w19.cell? ⟨gb212, 2, none⟩ = some (.int .i64 0) := (qC BK212.out 2).trans rfl; have hcz20_3 : w19.cell? ⟨gb212, 3, none⟩ = some (.int .i64 0) := (qC BK212.out 3).trans rfl; have hfz20_0 := qB BK212.out 0; have hfz20_1 := qB BK212.out 1; have hfz20_2 := qB BK212.out 2; have hfz20_3 := qB BK212.out 3))
    refine bodyPost_ret (results_cell_row rfl _ _ gb212 26 #[.slice none 0 0, .slice none 0 0, .int .i64 0, .int .i64 0] (0, 0) _ rfl (by (with_reducible repeat (first | refine qH ?_ _ | refine qI ?_ | refine qG ?_ _)); refine qU (cs := #[.slice none 0 0, .slice none 0 0, .int .i64 0, .int .i64 0]) ?_ 3 _ rfl; (with_reducible repeat (first | refine qH ?_ _ | refine qI ?_ | refine qG ?_ _)); refine qU (cs := #[.slice none 0 0, .slice none 0 0, .int .i64 0, .int .i64 0]) ?_ 2 _ rfl; (with_reducible repeat (first | refine qH ?_ _ | refine qI ?_ | refine qG ?_ _)); refine qU (cs := #[.slice none 0 0, .slice none 0 0, .int .i64 0, .int .i64 0]) ?_ 1 _ rfl; (with_reducible repeat (first | refine qH ?_ _ | refine qI ?_ | refine qG ?_ _)); refine qU (cs := #[.slice none 0 0, .slice none 0 0, .int .i64 0, .int .i64 0]) ?_ 0 _ rfl; (with_reducible repeat (first | refine qH ?_ _ | refine qI ?_ | refine qG ?_ _)); exact BK212.out) Try.underlying26 rfl (by kernel_rfl)) rfl ?_
    exact ⟨_, _, by first | rfl | (simp [errW_none, errW_some] <;> rfl) | (simp [*, errW_none, errW_some] <;> rfl), by first | exact Kd.R_nil _ _ _ _ _ | exact Kd.N_nil _ _ _ _ _ | exact Kd.V_nil _ _ _ _ _ | exact Kd.Q_nil _ _ _ _ _ | exact Kd.S_nil _ _ _ _ _, by first | exact Kd.R_nil _ _ _ _ _ | exact Kd.N_nil _ _ _ _ _ | exact Kd.V_nil _ _ _ _ _ | exact Kd.Q_nil _ _ _ _ _ | exact Kd.S_nil _ _ _ _ _, by repeat (first | (with_reducible first | exact HB.out | apply qE | apply qA | apply qD | refine qF ?_ GE211.out | refine qF ?_ GE212.out) | exact HB.out)⟩

end Go.Proofs.Ytepihebkdnmppaa.Af
