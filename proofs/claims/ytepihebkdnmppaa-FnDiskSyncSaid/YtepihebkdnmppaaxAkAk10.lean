/- Walks of the seat's functions, written by a program of this session (xprint.py) with the kit's printer: each call comes to just what its Lean function says. -/
import Derived.Test.YtepihebkdnmppaaxAkAk0
import Derived.Test.YtepihebkdnmppaaxAkAk3
import Derived.Test.YtepihebkdnmppaaxAkAk9
namespace Go.Proofs.Ytepihebkdnmppaa.Ak
open Go.RowKit Go.Proofs.YtepihebkdnmppaaV.PrintWords Go.Proofs.YtepihebkdnmppaaV.PrintLast Go.Proofs.YtepihebkdnmppaaV.PrintMore
attribute [local go_sem] max2_int min2_int max_two min_two xD xE max_four min_four   -- for this text's walks alone
attribute [local go_sem high] World.zQ
set_option linter.unusedVariables false
set_option linter.unusedSimpArgs false

/-! ### impl_DiskCrash: function 31 -/
mutual
def impl_DiskCrash.j0 : Nat → Int → Int → Int → Bool → List ByteArray → List (S70) → Int → Int → Option (List ByteArray × (List (S70)) × Int × Int)
  | 0, _, _, _, _, _, _, _, _ => none
  | k + 1, x1, x2, x3, x18, x383000, x383001, x383002, x383003 => if x18 = true then (some (([] : List ByteArray), ([] : List (S70)), 0, 0)) else ((impl_clone_string.f x383000).bind fun t385 => (impl_DiskCrash.l0 k x1 x2 x3 x383001 (x383001.length : Int) 0 t385 (-1) (-1)))
def impl_DiskCrash.l0 : Nat → Int → Int → Int → List (S70) → Int → Int → List ByteArray → Int → Int → Option (List ByteArray × (List (S70)) × Int × Int)
  | 0, _, _, _, _, _, _, _, _, _ => none
  | k + 1, x1, x2, x3, x25, x26, x27, x389000, x389002, x389003 => if x27 < x26 then (if 0 ≤ x27 then (if x27 < (x25.length : Int) then (if 0 ≤ (Int.tmod x27 60) then (if (Go.bits .and .i64 (shr .i64 x1 (Int.tmod x27 60)) 1) = 1 then (if 0 ≤ ((rd_T70 x25 x27).f0) then (if ((rd_T70 x25 x27).f0) < (x389000.length : Int) then (impl_DiskCrash.l0 k x1 x2 x3 x25 x26 (wrap64 (x27 + 1)) (x389000.set (((rd_T70 x25 x27).f0) : Int).toNat ((rd_T70 x25 x27).f1)) x389002 x389003) else (none)) else (none)) else (if x27 = x2 then (if 0 ≤ ((rd_T70 x25 x27).f0) then (if ((rd_T70 x25 x27).f0) < (x389000.length : Int) then ((impl_torn.f (rdOf ByteArray.empty x389000 ((rd_T70 x25 x27).f0)) ((rd_T70 x25 x27).f1) x3).bind fun t393 => (impl_DiskCrash.l0 k x1 x2 x3 x25 x26 (wrap64 (x27 + 1)) (x389000.set (((rd_T70 x25 x27).f0) : Int).toNat t393) x389002 x389003)) else (none)) else (none)) else (impl_DiskCrash.l0 k x1 x2 x3 x25 x26 (wrap64 (x27 + 1)) x389000 x389002 x389003))) else (none)) else (none)) else (none)) else (some (x389000, ([] : List (S70)), x389002, x389003))
end
def impl_DiskCrash.f (k : Nat) (l0_0 : List ByteArray) (l0_1 : List (S70)) (a0_2 : Int) (a0_3 : Int) (a1 : Int) (a2 : Int) (a3 : Int) : Option (List ByteArray × (List (S70)) × Int × Int) := (impl_DiskOk.f l0_0 l0_1 a0_2 a0_3).bind fun t384 => (if t384 = true then (impl_DiskCrash.j0 k a1 a2 a3 (decide (a1 < 0)) l0_0 l0_1 a0_2 a0_3) else (impl_DiskCrash.j0 k a1 a2 a3 true l0_0 l0_1 a0_2 a0_3))
theorem impl_DiskCrash.mono_l : ∀ k, (∀ y0 y1 y2 y3 y4 y5 y6 y7, LeO (impl_DiskCrash.j0 k y0 y1 y2 y3 y4 y5 y6 y7) (impl_DiskCrash.j0 (k + 1) y0 y1 y2 y3 y4 y5 y6 y7)) ∧ (∀ y0 y1 y2 y3 y4 y5 y6 y7 y8, LeO (impl_DiskCrash.l0 k y0 y1 y2 y3 y4 y5 y6 y7 y8) (impl_DiskCrash.l0 (k + 1) y0 y1 y2 y3 y4 y5 y6 y7 y8))
  | 0 => ⟨fun _ _ _ _ _ _ _ _ r h => by simp [impl_DiskCrash.j0] at h, fun _ _ _ _ _ _ _ _ _ r h => by simp [impl_DiskCrash.l0] at h⟩
  | k + 1 => by
    obtain ⟨ih0, ih1⟩ := impl_DiskCrash.mono_l k
    refine ⟨?_, ?_⟩
    · intro y0 y1 y2 y3 y4 y5 y6 y7
      unfold impl_DiskCrash.j0
      repeat' first
      | (with_reducible exact ih0 _ _ _ _ _ _ _ _)
      | (with_reducible exact ih1 _ _ _ _ _ _ _ _ _)
      | (with_reducible exact LeO.refl _)
      | (with_reducible exact LeO.none _)
      | (with_reducible refine LeO.ite ?_ ?_)
      | (with_reducible refine LeO.bind ?_ (fun _ => ?_))
      | exact ih0 _ _ _ _ _ _ _ _
      | exact ih1 _ _ _ _ _ _ _ _ _
      | exact LeO.none _
      | refine LeO.ite ?_ ?_
      | refine LeO.bind ?_ (fun _ => ?_)
    · intro y0 y1 y2 y3 y4 y5 y6 y7 y8
      unfold impl_DiskCrash.l0
      repeat' first
      | (with_reducible exact ih0 _ _ _ _ _ _ _ _)
      | (with_reducible exact ih1 _ _ _ _ _ _ _ _ _)
      | (with_reducible exact LeO.refl _)
      | (with_reducible exact LeO.none _)
      | (with_reducible refine LeO.ite ?_ ?_)
      | (with_reducible refine LeO.bind ?_ (fun _ => ?_))
      | exact ih0 _ _ _ _ _ _ _ _
      | exact ih1 _ _ _ _ _ _ _ _ _
      | exact LeO.none _
      | refine LeO.ite ?_ ?_
      | refine LeO.bind ?_ (fun _ => ?_)
theorem impl_DiskCrash.mono : ∀ a0 a1 a2 a3 a4 a5 a6 k, LeO (impl_DiskCrash.f k a0 a1 a2 a3 a4 a5 a6) (impl_DiskCrash.f (k + 1) a0 a1 a2 a3 a4 a5 a6) := by
  intro a0 a1 a2 a3 a4 a5 a6 k
  obtain ⟨ih0, ih1⟩ := impl_DiskCrash.mono_l k
  unfold impl_DiskCrash.f
  repeat' first
      | (with_reducible exact ih0 _ _ _ _ _ _ _ _)
      | (with_reducible exact ih1 _ _ _ _ _ _ _ _ _)
      | (with_reducible exact LeO.refl _)
      | (with_reducible exact LeO.none _)
      | (with_reducible refine LeO.ite ?_ ?_)
      | (with_reducible refine LeO.bind ?_ (fun _ => ?_))
      | exact ih0 _ _ _ _ _ _ _ _
      | exact ih1 _ _ _ _ _ _ _ _ _
      | exact LeO.none _
      | refine LeO.ite ?_ ?_
      | refine LeO.bind ?_ (fun _ => ?_)
def impl_DiskCrash.T10 : Bool × List (List Nat × List Nat) := (true, [([], []), ([0], [0]), ([], []), ([2], [2]), ([], []), ([4], [4]), ([], []), ([6], [6]), ([5, 7], [5, 7]), ([8], [8]), ([], []), ([10], [10]), ([], []), ([9, 11, 12], [9, 11, 12]), ([1, 3, 0, 1, 2, 3, 4, 5, 6, 7, 8, 9, 10, 11, 12, 13], [1, 3]), ([14, 13, 13, 0, 1, 2, 3, 4, 5, 6, 7, 8, 9, 10, 11, 12, 13], [13, 14])])
def impl_DiskCrash.B10 : List Nat := [0, 1, 0, 4, 0, 16, 0, 64, 240, 496, 0, 1024, 0, 8176, 16383, 32767]
theorem impl_DiskCrash.tab10 : rtab .any (opsOf Try.f31 10) = impl_DiskCrash.T10 := by kernel_rfl
theorem impl_DiskCrash.bits10 : waitsOk impl_DiskCrash.T10.2 impl_DiskCrash.B10 = true := by kernel_rfl
set_option maxHeartbeats 8000000 in
set_option maxRecDepth 100000 in
theorem impl_DiskCrash.calls (k : Nat) (A0_0 : Option Addr) (c0_0 : Nat) (l0_0 : List ByteArray) (A0_1 : Option Addr) (c0_1 : Nat) (l0_1 : List (S70)) (a0_2 : Int) (a0_3 : Int) (a1 : Int) (a2 : Int) (a3 : Int) (r1 : List ByteArray) (r2 : List (S70)) (r3 : Int) (r4 : Int) (w : World) (hr0_0 : Kd.C Kd.string w A0_0 l0_0.length l0_0) (hc0_0 : l0_0.length ≤ c0_0) (hr0_1 : Kd.C k70 w A0_1 l0_1.length l0_1) (hc0_1 : l0_1.length ≤ c0_1) (h : impl_DiskCrash.f k l0_0 l0_1 a0_2 a0_3 a1 a2 a3 = some (r1, r2, r3, r4)) :
    Calls Try.prog 31 #[.agg #[.slice A0_0 l0_0.length c0_0, .slice A0_1 l0_1.length c0_1, .int .i64 a0_2, .int .i64 a0_3], .int .i64 a1, .int .i64 a2, .int .i64 a3] w fun e w' => ∃ v0_ v1_ : Value, e = .returned (.agg #[v0_, v1_, .int .i64 r3, .int .i64 r4]) ∧ Kd.R Kd.string 9 w' w.heap.size (fun _ => True) v0_ r1 ∧ Kd.R k70 70 w' w.heap.size (fun _ => True) v1_ r2 ∧ Below w.heap.size w w' := by
  have hu26 := Try.underlying26
  have hu70 := Try.underlying70
  have HR0_0 := Aside0.mk hr0_0
  have HC0_0 := Aside0.mk hc0_0
  clear hr0_0 hc0_0
  have HR0_1 := Aside0.mk hr0_1
  have HC0_1 := Aside0.mk hc0_1
  clear hr0_1 hc0_1
  have HB := Aside0.mk (Below.refl w.heap.size w)
  have H : ((impl_DiskOk.f l0_0 l0_1 a0_2 a0_3).bind fun t384 => (if t384 = true then (impl_DiskCrash.j0 k a1 a2 a3 (decide (a1 < 0)) l0_0 l0_1 a0_2 a0_3) else (impl_DiskCrash.j0 k a1 a2 a3 true l0_0 l0_1 a0_2 a0_3))) = some (r1, r2, r3, r4) := h
  clear h
  have HC5 := Aside0.mk H
  clear H
  go_enter Try.func31, Try.ntmps31
  go_upto_region 1 with (first | ((with_reducible refine zB (N := 4) rfl ?_); refine qZ ?hg (N := 4) ?hd (cs := #[.slice A0_0 l0_0.length c0_0, .slice A0_1 l0_1.length c0_1, .int .i64 a0_2, .int .i64 a0_3]) (t := 26) ?hr ?_; (case hd => rfl); (case hg => rfl); (case hr => first | (go_simp; done) | (go_simp; rfl)); intro gb382 hg w6 hbox hb; have n0_ := Aside0.mk (qN (by repeat (first | (with_reducible first | exact HB.out | apply qF | apply qC | apply qE) | exact HB.out)) hb); have n1_ := Aside0.mk (hbox); have n2_ := Aside0.mk ((by rw [hg]; exact (qM (by repeat (first | (with_reducible first | exact HB.out | apply qF | apply qC | apply qE) | exact HB.out))) : w.heap.size ≤ gb382)); have n3_ := Aside0.mk ((by rw [hg]; exact (qM (by repeat (first | (with_reducible first | exact HB.out | apply qF | apply qC | apply qE) | exact HB.out))) : w.heap.size ≤ gb382)); clear HB; have HB := n0_; have BK382 := n1_; have GW382 := n2_; have GE382 := n3_; clear n0_ n1_ n2_ n3_; clear hb hbox hg) | ((with_reducible refine zB (N := 8) rfl ?_); refine qZ ?hg (N := 8) ?hd (cs := #[.slice none 0 0, .slice none 0 0, .int .i64 0, .int .i64 0]) (t := 26) ?hr ?_; (case hd => rfl); (case hg => rfl); (case hr => first | (go_simp; done) | (go_simp; rfl)); intro gb383 hg w7 hbox hb; have n0_ := Aside0.mk (qJ (g := gb382) (o := .cells #[.slice A0_0 l0_0.length c0_0, .slice A0_1 l0_1.length c0_1, .int .i64 a0_2, .int .i64 a0_3] 26 (0, 0)) (bw_ BK382.out) hb); have n1_ := Aside0.mk (qN (by repeat (first | (with_reducible first | exact HB.out | apply qF | apply qC | apply qE | refine qB ?_ GE382.out) | exact HB.out)) hb); have n2_ := Aside0.mk (hbox); have n3_ := Aside0.mk ((by rw [hg]; exact (qM (by repeat (first | (with_reducible first | exact HB.out | apply qF | apply qC | apply qE | refine qB ?_ GE382.out) | exact HB.out))) : w.heap.size ≤ gb383)); have n4_ := Aside0.mk ((by rw [hg]; exact (qM (by repeat (first | (with_reducible first | exact HB.out | apply qF | apply qC | apply qE | refine qB ?_ GE382.out) | exact HB.out))) : w.heap.size ≤ gb383)); have n5_ := Aside0.mk ((by rw [hg]; exact Nat.ne_of_lt (zE (g := gb382) (o := .cells #[.slice A0_0 l0_0.length c0_0, .slice A0_1 l0_1.length c0_1, .int .i64 a0_2, .int .i64 a0_3] 26 (0, 0)) (bw_ BK382.out)) : gb382 ≠ gb383)); have n6_ := Aside0.mk ((by rw [hg]; exact Nat.ne_of_gt (zE (g := gb382) (o := .cells #[.slice A0_0 l0_0.length c0_0, .slice A0_1 l0_1.length c0_1, .int .i64 a0_2, .int .i64 a0_3] 26 (0, 0)) (bw_ BK382.out)) : gb383 ≠ gb382)); clear BK382; clear HB; have BK382 := n0_; have HB := n1_; have BK383 := n2_; have GW383 := n3_; have GE383 := n4_; have NB382_383 := n5_; have NB383_382 := n6_; clear n0_ n1_ n2_ n3_ n4_ n5_ n6_; clear hb hbox hg))
  (try simp only [Act.put, List.setIfInBounds_toArray, List.set_cons_zero, List.set_cons_succ])
  go_cut [18] (fun v18 wc => ∃ (kq : Nat) (x18_4 : Bool), v18 = .bool x18_4 ∧ Aside0 (impl_DiskCrash.j0 kq a1 a2 a3 x18_4 l0_0 l0_1 a0_2 a0_3 = some (r1, r2, r3, r4)) ∧ Aside0 (kq ≤ k) ∧ Aside0 (wc.heap[gb382]? = some (.cells #[(.slice A0_0 l0_0.length c0_0), (.slice A0_1 l0_1.length c0_1), .int .i64 a0_2, .int .i64 a0_3] 26 (0, 0))) ∧ Aside0 (wc.heap[gb383]? = some (.cells #[(.slice none 0 0), (.slice none 0 0), .int .i64 0, .int .i64 0] 26 (0, 0))) ∧ Aside0 (Below w.heap.size w wc))
  case first =>
    have H := HC5.out
    clear HC5
    replace H := Option.bind_eq_some_iff.mp H
    obtain ⟨t384, A80, H⟩ := H
    replace H : (if t384 = true then (impl_DiskCrash.j0 k a1 a2 a3 (decide (a1 < 0)) l0_0 l0_1 a0_2 a0_3) else (impl_DiskCrash.j0 k a1 a2 a3 true l0_0 l0_1 a0_2 a0_3)) = some (r1, r2, r3, r4) := H
    have A8 := Aside0.mk A80
    clear A80
    by_cases c9 : t384 = true
    · subst c9
      have H1 : (impl_DiskCrash.j0 k a1 a2 a3 (decide (a1 < 0)) l0_0 l0_1 a0_2 a0_3) = some (r1, r2, r3, r4) := by first | rfl | (rw [if_pos rfl] at H; exact H)
      clear H
      have H := H1
      clear H1
      have H' := Aside0.mk H
      clear H
      have hnb10 := NB382_383.out
      have hnc10 := NB383_382.out
      have hcz11_0 : w7.cell? ⟨gb382, 0, none⟩ = some (.slice A0_0 l0_0.length c0_0) := (qA BK382.out 0).trans rfl
      have hcz11_1 : w7.cell? ⟨gb382, 1, none⟩ = some (.slice A0_1 l0_1.length c0_1) := (qA BK382.out 1).trans rfl
      have hcz11_2 : w7.cell? ⟨gb382, 2, none⟩ = some (.int .i64 a0_2) := (qA BK382.out 2).trans rfl
      have hcz11_3 : w7.cell? ⟨gb382, 3, none⟩ = some (.int .i64 a0_3) := (qA BK382.out 3).trans rfl
      have hfz11_0 := qD BK382.out 0
      have hfz11_1 := qD BK382.out 1
      have hfz11_2 := qD BK382.out 2
      have hfz11_3 := qD BK382.out 3
      go_wp2_with (first | ((with_reducible refine qT (f := 22) rfl ?_); refine zL (some 13) rfl rfl Try.func22 (by kernel_rfl) rfl #[.agg #[.slice A0_0 l0_0.length c0_0, .slice A0_1 l0_1.length c0_1, .int .i64 a0_2, .int .i64 a0_3]] rfl (by (try simp only [List.map_toArray, List.map_cons, List.map_nil]); first | done | rfl | (simp only [List.length_drop, List.length_take]; rfl)) ?_; (with_reducible refine (impl_DiskOk.calls _ _ l0_0 _ _ l0_1 a0_2 a0_3 true _ ?side1 ?side2 ?side3 ?side4 A8.out).mono ?_); (case side1 => repeat (first | exact (Kd.zI HR0_0.out HB.out) | (with_reducible refine Kd.zC ?_ _) | (with_reducible refine Kd.zD ?_ _) | (with_reducible refine Kd.zH ?_))); (case side2 => exact HC0_0.out); (case side3 => repeat (first | exact (Kd.zI HR0_1.out HB.out) | (with_reducible refine Kd.zC ?_ _) | (with_reducible refine Kd.zD ?_ _) | (with_reducible refine Kd.zH ?_))); (case side4 => exact HC0_1.out); rintro e w12 ⟨rfl, hb⟩; refine ⟨_, rfl, ?_⟩; have n0_ := Aside0.mk (qJ (g := gb382) (o := .cells #[.slice A0_0 l0_0.length c0_0, .slice A0_1 l0_1.length c0_1, .int .i64 a0_2, .int .i64 a0_3] 26 (0, 0)) (bw_ BK382.out) hb); have n1_ := Aside0.mk (qJ (g := gb383) (o := .cells #[.slice none 0 0, .slice none 0 0, .int .i64 0, .int .i64 0] 26 (0, 0)) (bw_ BK383.out) hb); have n2_ := Aside0.mk (qN (by repeat (first | (with_reducible first | exact HB.out | apply qF | apply qC | apply qE | refine qB ?_ GE382.out | refine qB ?_ GE383.out) | exact HB.out)) hb); clear BK382; clear BK383; clear HB; have BK382 := n0_; have BK383 := n1_; have HB := n2_; clear n0_ n1_ n2_; (try clear hb); (try clear hb2); (try clear hk); (try clear hi)))
      go_meet
      case rel => exact ⟨_, (decide (a1 < 0)), (by first | rfl | (simp; done) | (simp [*]; done)), H', ⟨by first | omega | exact Nat.le_refl _⟩, ⟨by (with_reducible repeat (first | refine qH ?_ _ | refine qI ?_ | refine qG ?_ _)); exact BK382.out⟩, ⟨by (with_reducible repeat (first | refine qH ?_ _ | refine qI ?_ | refine qG ?_ _)); exact BK383.out⟩, ⟨by repeat (first | (with_reducible first | exact HB.out | apply qF | apply qC | apply qE | refine qB ?_ GE382.out | refine qB ?_ GE383.out) | exact HB.out)⟩⟩
    · replace c9 := Bool.eq_false_iff.mpr c9
      subst c9
      have H1 : (impl_DiskCrash.j0 k a1 a2 a3 true l0_0 l0_1 a0_2 a0_3) = some (r1, r2, r3, r4) := by first | rfl | (rw [if_neg (show ¬ (false = true) by decide)] at H; exact H)
      clear H
      have H := H1
      clear H1
      have H' := Aside0.mk H
      clear H
      have hnb13 := NB382_383.out
      have hnc13 := NB383_382.out
      have hcz14_0 : w7.cell? ⟨gb382, 0, none⟩ = some (.slice A0_0 l0_0.length c0_0) := (qA BK382.out 0).trans rfl
      have hcz14_1 : w7.cell? ⟨gb382, 1, none⟩ = some (.slice A0_1 l0_1.length c0_1) := (qA BK382.out 1).trans rfl
      have hcz14_2 : w7.cell? ⟨gb382, 2, none⟩ = some (.int .i64 a0_2) := (qA BK382.out 2).trans rfl
      have hcz14_3 : w7.cell? ⟨gb382, 3, none⟩ = some (.int .i64 a0_3) := (qA BK382.out 3).trans rfl
      have hfz14_0 := qD BK382.out 0
      have hfz14_1 := qD BK382.out 1
      have hfz14_2 := qD BK382.out 2
      have hfz14_3 := qD BK382.out 3
      go_wp2_with (first | ((with_reducible refine qT (f := 22) rfl ?_); refine zL (some 13) rfl rfl Try.func22 (by kernel_rfl) rfl #[.agg #[.slice A0_0 l0_0.length c0_0, .slice A0_1 l0_1.length c0_1, .int .i64 a0_2, .int .i64 a0_3]] rfl (by (try simp only [List.map_toArray, List.map_cons, List.map_nil]); first | done | rfl | (simp only [List.length_drop, List.length_take]; rfl)) ?_; (with_reducible refine (impl_DiskOk.calls _ _ l0_0 _ _ l0_1 a0_2 a0_3 false _ ?side1 ?side2 ?side3 ?side4 A8.out).mono ?_); (case side1 => repeat (first | exact (Kd.zI HR0_0.out HB.out) | (with_reducible refine Kd.zC ?_ _) | (with_reducible refine Kd.zD ?_ _) | (with_reducible refine Kd.zH ?_))); (case side2 => exact HC0_0.out); (case side3 => repeat (first | exact (Kd.zI HR0_1.out HB.out) | (with_reducible refine Kd.zC ?_ _) | (with_reducible refine Kd.zD ?_ _) | (with_reducible refine Kd.zH ?_))); (case side4 => exact HC0_1.out); rintro e w15 ⟨rfl, hb⟩; refine ⟨_, rfl, ?_⟩; have n0_ := Aside0.mk (qJ (g := gb382) (o := .cells #[.slice A0_0 l0_0.length c0_0, .slice A0_1 l0_1.length c0_1, .int .i64 a0_2, .int .i64 a0_3] 26 (0, 0)) (bw_ BK382.out) hb); have n1_ := Aside0.mk (qJ (g := gb383) (o := .cells #[.slice none 0 0, .slice none 0 0, .int .i64 0, .int .i64 0] 26 (0, 0)) (bw_ BK383.out) hb); have n2_ := Aside0.mk (qN (by repeat (first | (with_reducible first | exact HB.out | apply qF | apply qC | apply qE | refine qB ?_ GE382.out | refine qB ?_ GE383.out) | exact HB.out)) hb); clear BK382; clear BK383; clear HB; have BK382 := n0_; have BK383 := n1_; have HB := n2_; clear n0_ n1_ n2_; (try clear hb); (try clear hb2); (try clear hk); (try clear hi)))
      go_meet
      case rel => exact ⟨_, (true), (by first | rfl | (simp; done) | (simp [*]; done)), H', ⟨by first | omega | exact Nat.le_refl _⟩, ⟨by (with_reducible repeat (first | refine qH ?_ _ | refine qI ?_ | refine qG ?_ _)); exact BK382.out⟩, ⟨by (with_reducible repeat (first | refine qH ?_ _ | refine qI ?_ | refine qG ?_ _)); exact BK383.out⟩, ⟨by repeat (first | (with_reducible first | exact HB.out | apply qF | apply qC | apply qE | refine qB ?_ GE382.out | refine qB ?_ GE383.out) | exact HB.out)⟩⟩
  case rest =>
    clear HC5
    try clear c1
    try clear c2
    try clear p2
    try clear c3
    try clear c9
    try clear c10
    try clear c13
    try clear hcz11_0
    try clear hcz11_1
    try clear hcz11_2
    try clear hcz11_3
    try clear hcz14_0
    try clear hcz14_1
    try clear hcz14_2
    try clear hcz14_3
    try clear hfz11_0
    try clear hfz11_1
    try clear hfz11_2
    try clear hfz11_3
    try clear hfz14_0
    try clear hfz14_1
    try clear hfz14_2
    try clear hfz14_3
    obtain ⟨kq, x18_4, rfl, HA, HJ4, BK382, BK383, HB⟩ := hcut
    cases kq with
    | zero => exact absurd HA.out (by simp [impl_DiskCrash.j0])
    | succ kj4 =>
      have H := HA.out
      clear HA
      simp only [impl_DiskCrash.j0] at H
      by_cases c16 : x18_4 = true
      · subst c16
        have H1 : (some (([] : List ByteArray), ([] : List (S70)), 0, 0)) = some (r1, r2, r3, r4) := by first | rfl | (rw [if_pos rfl] at H; exact H)
        clear H
        have H := H1
        clear H1
        simp only [Option.some.injEq, Prod.mk.injEq] at H
        obtain ⟨rfl, rfl, rfl, rfl⟩ := H
        have hnb17 := NB383_382.out
        have hnc17 := NB382_383.out
        have hcz18_0 : wc.cell? ⟨gb383, 0, none⟩ = some (.slice none 0 0) := (qA BK383.out 0).trans rfl
        have hcz18_1 : wc.cell? ⟨gb383, 1, none⟩ = some (.slice none 0 0) := (qA BK383.out 1).trans rfl
        have hcz18_2 : wc.cell? ⟨gb383, 2, none⟩ = some (.int .i64 0) := (qA BK383.out 2).trans rfl
        have hcz18_3 : wc.cell? ⟨gb383, 3, none⟩ = some (.int .i64 0) := (qA BK383.out 3).trans rfl
        have hfz18_0 := qD BK383.out 0
        have hfz18_1 := qD BK383.out 1
        have hfz18_2 := qD BK383.out 2
        have hfz18_3 := qD BK383.out 3
        go_wp2
        refine bodyPost_ret (results_cell_row rfl _ _ gb383 26 #[.slice none 0 0, .slice none 0 0, .int .i64 0, .int .i64 0] (0, 0) _ rfl (by (with_reducible repeat (first | refine qH ?_ _ | refine qI ?_ | refine qG ?_ _)); refine qP (cs := #[.slice none 0 0, .slice none 0 0, .int .i64 0, .int .i64 0]) ?_ 3 _ rfl; (with_reducible repeat (first | refine qH ?_ _ | refine qI ?_ | refine qG ?_ _)); refine qP (cs := #[.slice none 0 0, .slice none 0 0, .int .i64 0, .int .i64 0]) ?_ 2 _ rfl; (with_reducible repeat (first | refine qH ?_ _ | refine qI ?_ | refine qG ?_ _)); refine qP (cs := #[.slice none 0 0, .slice none 0 0, .int .i64 0, .int .i64 0]) ?_ 1 _ rfl; (with_reducible repeat (first | refine qH ?_ _ | refine qI ?_ | refine qG ?_ _)); refine qP (cs := #[.slice none 0 0, .slice none 0 0, .int .i64 0, .int .i64 0]) ?_ 0 _ rfl; (with_reducible repeat (first | refine qH ?_ _ | refine qI ?_ | refine qG ?_ _)); exact BK383.out) Try.underlying26 rfl (by kernel_rfl)) rfl ?_
        exact ⟨_, _, by first | rfl | (simp [errW_none, errW_some] <;> rfl) | (simp [*, errW_none, errW_some] <;> rfl), by first | exact Kd.R_nil _ _ _ _ _ | exact Kd.N_nil _ _ _ _ _ | exact Kd.V_nil _ _ _ _ _ | exact Kd.Q_nil _ _ _ _ _ | exact Kd.S_nil _ _ _ _ _, by first | exact Kd.R_nil _ _ _ _ _ | exact Kd.N_nil _ _ _ _ _ | exact Kd.V_nil _ _ _ _ _ | exact Kd.Q_nil _ _ _ _ _ | exact Kd.S_nil _ _ _ _ _, by repeat (first | (with_reducible first | exact HB.out | apply qF | apply qC | apply qE | refine qB ?_ GE382.out | refine qB ?_ GE383.out) | exact HB.out)⟩
      · replace c16 := Bool.eq_false_iff.mpr c16
        subst c16
        have H1 : ((impl_clone_string.f l0_0).bind fun t385 => (impl_DiskCrash.l0 kj4 a1 a2 a3 l0_1 (l0_1.length : Int) 0 t385 (-1) (-1))) = some (r1, r2, r3, r4) := by first | rfl | (rw [if_neg (show ¬ (false = true) by decide)] at H; exact H)
        clear H
        have H := H1
        clear H1
        replace H := Option.bind_eq_some_iff.mp H
        obtain ⟨t385, A190, H⟩ := H
        replace H : (impl_DiskCrash.l0 kj4 a1 a2 a3 l0_1 (l0_1.length : Int) 0 t385 (-1) (-1)) = some (r1, r2, r3, r4) := H
        have A19 := Aside0.mk A190
        clear A190
        have H' := Aside0.mk H
        clear H
        have hnb20 := NB382_383.out
        have hnc20 := NB383_382.out
        have hcz21_0 : wc.cell? ⟨gb382, 0, none⟩ = some (.slice A0_0 l0_0.length c0_0) := (qA BK382.out 0).trans rfl
        have hcz21_1 : wc.cell? ⟨gb382, 1, none⟩ = some (.slice A0_1 l0_1.length c0_1) := (qA BK382.out 1).trans rfl
        have hcz21_2 : wc.cell? ⟨gb382, 2, none⟩ = some (.int .i64 a0_2) := (qA BK382.out 2).trans rfl
        have hcz21_3 : wc.cell? ⟨gb382, 3, none⟩ = some (.int .i64 a0_3) := (qA BK382.out 3).trans rfl
        have hfz21_0 := qD BK382.out 0
        have hfz21_1 := qD BK382.out 1
        have hfz21_2 := qD BK382.out 2
        have hfz21_3 := qD BK382.out 3
        go_wp2_with (first | ((with_reducible refine qT (f := 63) rfl ?_); refine zL (some 22) rfl rfl Try.func63 (by kernel_rfl) rfl #[.slice A0_0 l0_0.length c0_0] rfl (by (try simp only [List.map_toArray, List.map_cons, List.map_nil]); first | done | rfl | (simp only [List.length_drop, List.length_take]; rfl)) ?_; (with_reducible refine (impl_clone_string.calls _ _ l0_0 t385 _ ?side1 ?side2 A19.out).mono ?_); (case side1 => repeat (first | exact (Kd.zI HR0_0.out HB.out) | (with_reducible refine Kd.zC ?_ _) | (with_reducible refine Kd.zD ?_ _) | (with_reducible refine Kd.zH ?_))); (case side2 => exact HC0_0.out); rintro e w22 ⟨v386, rfl, ho0, hb⟩; refine ⟨_, rfl, ?_⟩; have n0_ := Aside0.mk (Kd.zJ ho0 (qM (by repeat (first | (with_reducible first | exact HB.out | apply qF | apply qC | apply qE | refine qB ?_ GE382.out | refine qB ?_ GE383.out) | exact HB.out)))); have n1_ := Aside0.mk (qJ (g := gb382) (o := .cells #[.slice A0_0 l0_0.length c0_0, .slice A0_1 l0_1.length c0_1, .int .i64 a0_2, .int .i64 a0_3] 26 (0, 0)) (bw_ BK382.out) hb); have n2_ := Aside0.mk (qJ (g := gb383) (o := .cells #[.slice none 0 0, .slice none 0 0, .int .i64 0, .int .i64 0] 26 (0, 0)) (bw_ BK383.out) hb); have n3_ := Aside0.mk (qN (by repeat (first | (with_reducible first | exact HB.out | apply qF | apply qC | apply qE | refine qB ?_ GE382.out | refine qB ?_ GE383.out) | exact HB.out)) hb); clear BK382; clear BK383; clear HB; have HO387 := n0_; have BK382 := n1_; have BK383 := n2_; have HB := n3_; clear n0_ n1_ n2_ n3_; (try clear hb); (try clear hb2); (try clear hk); (try clear hi); (try clear ho0); obtain ⟨Ao23, co23, eo23⟩ := Kd.zG HO387.out; subst eo23) | ((with_reducible refine zB (N := 9) rfl ?_); refine qZ ?hg (N := 9) ?hd (cs := #[.slice none 0 0, .slice none 0 0, .int .i64 0, .int .i64 0]) (t := 26) ?hr ?_; (case hd => rfl); (case hg => rfl); (case hr => first | (go_simp; done) | (go_simp; rfl)); intro gb388 hg w24 hbox hb; have n0_ := Aside0.mk (Kd.qU (rw_ HO387.out) hb); have n1_ := Aside0.mk (qJ (g := gb382) (o := .cells #[.slice A0_0 l0_0.length c0_0, .slice A0_1 l0_1.length c0_1, .int .i64 a0_2, .int .i64 a0_3] 26 (0, 0)) (bw_ BK382.out) hb); have n2_ := Aside0.mk (qJ (g := gb383) (o := .cells #[.slice none 0 0, .slice none 0 0, .int .i64 0, .int .i64 0] 26 (0, 0)) (bw_ BK383.out) hb); have n3_ := Aside0.mk (qN (by repeat (first | (with_reducible first | exact HB.out | apply qF | apply qC | apply qE | refine qB ?_ GE382.out | refine qB ?_ GE383.out) | exact HB.out)) hb); have n4_ := Aside0.mk (hbox); have n5_ := Aside0.mk ((by rw [hg]; exact (qM (by repeat (first | (with_reducible first | exact HB.out | apply qF | apply qC | apply qE | refine qB ?_ GE382.out | refine qB ?_ GE383.out) | exact HB.out))) : w.heap.size ≤ gb388)); have n6_ := Aside0.mk ((by rw [hg]; exact (qM (by repeat (first | (with_reducible first | exact HB.out | apply qF | apply qC | apply qE | refine qB ?_ GE382.out | refine qB ?_ GE383.out) | exact HB.out))) : w.heap.size ≤ gb388)); have n7_ := Aside0.mk ((by rw [hg]; exact Nat.ne_of_lt (zE (g := gb382) (o := .cells #[.slice A0_0 l0_0.length c0_0, .slice A0_1 l0_1.length c0_1, .int .i64 a0_2, .int .i64 a0_3] 26 (0, 0)) (bw_ BK382.out)) : gb382 ≠ gb388)); have n8_ := Aside0.mk ((by rw [hg]; exact Nat.ne_of_gt (zE (g := gb382) (o := .cells #[.slice A0_0 l0_0.length c0_0, .slice A0_1 l0_1.length c0_1, .int .i64 a0_2, .int .i64 a0_3] 26 (0, 0)) (bw_ BK382.out)) : gb388 ≠ gb382)); have n9_ := Aside0.mk ((by rw [hg]; exact Nat.ne_of_lt (zE (g := gb383) (o := .cells #[.slice none 0 0, .slice none 0 0, .int .i64 0, .int .i64 0] 26 (0, 0)) (bw_ BK383.out)) : gb383 ≠ gb388)); have n10_ := Aside0.mk ((by rw [hg]; exact Nat.ne_of_gt (zE (g := gb383) (o := .cells #[.slice none 0 0, .slice none 0 0, .int .i64 0, .int .i64 0] 26 (0, 0)) (bw_ BK383.out)) : gb388 ≠ gb383)); clear HO387; clear BK382; clear BK383; clear HB; have HO387 := n0_; have BK382 := n1_; have BK383 := n2_; have HB := n3_; have BK388 := n4_; have GW388 := n5_; have GE388 := n6_; have NB382_388 := n7_; have NB388_382 := n8_; have NB383_388 := n9_; have NB388_383 := n10_; clear n0_ n1_ n2_ n3_ n4_ n5_ n6_ n7_ n8_ n9_ n10_; clear hb hbox hg; have hnb25 := NB388_382.out; have hnc25 := NB382_388.out; have hnb26 := NB388_383.out; have hnc26 := NB383_388.out; have hcz27_0 : w24.cell? ⟨gb388, 0, none⟩ = some (.slice none 0 0) := (qA BK388.out 0).trans rfl; have hcz27_1 : w24.cell? ⟨gb388, 1, none⟩ = some (.slice none 0 0) := (qA BK388.out 1).trans rfl; have hcz27_2 : w24.cell? ⟨gb388, 2, none⟩ = some (.int .i64 0) := (qA BK388.out 2).trans rfl; have hcz27_3 : w24.cell? ⟨gb388, 3, none⟩ = some (.int .i64 0) := (qA BK388.out 3).trans rfl; have hfz27_0 := qD BK388.out 0; have hfz27_1 := qD BK388.out 1; have hfz27_2 := qD BK388.out 2; have hfz27_3 := qD BK388.out 3; have hcz28_0 : w24.cell? ⟨gb382, 0, none⟩ = some (.slice A0_0 l0_0.length c0_0) := (qA BK382.out 0).trans rfl; have hcz28_1 : w24.cell? ⟨gb382, 1, none⟩ = some (.slice A0_1 l0_1.length c0_1) := (qA BK382.out 1).trans rfl; have hcz28_2 : w24.cell? ⟨gb382, 2, none⟩ = some (.int .i64 a0_2) := (qA BK382.out 2).trans rfl; have hcz28_3 : w24.cell? ⟨gb382, 3, none⟩ = some (.int .i64 a0_3) := (qA BK382.out 3).trans rfl; have hfz28_0 := qD BK382.out 0; have hfz28_1 := qD BK382.out 1; have hfz28_2 := qD BK382.out 2; have hfz28_3 := qD BK382.out 3))
        go_loopg [27] kj4 (fun kq v27 w' => ∃ (x27_2 : Int) (x389000_2 : List ByteArray) (u389000 : Value), v27 = .int .i64 x27_2 ∧ Aside0 (impl_DiskCrash.l0 kq a1 a2 a3 l0_1 (l0_1.length : Int) x27_2 x389000_2 (-1) (-1) = some (r1, r2, r3, r4)) ∧ Aside0 (kq ≤ kj4) ∧ Aside0 (Kd.R Kd.string 9 w' w.heap.size (fun _ => True) u389000 x389000_2) ∧ Aside0 (w'.heap[gb382]? = some (.cells #[(.slice A0_0 l0_0.length c0_0), (.slice A0_1 l0_1.length c0_1), .int .i64 a0_2, .int .i64 a0_3] 26 (0, 0))) ∧ Aside0 (w'.heap[gb383]? = some (.cells #[(.slice none 0 0), (.slice none 0 0), .int .i64 0, .int .i64 0] 26 (0, 0))) ∧ Aside0 (w'.heap[gb388]? = some (.cells #[u389000, (.slice none 0 0), .int .i64 (-1), .int .i64 (-1)] 26 (0, 0))) ∧ Aside0 (Below w.heap.size w w'))
        case atStart => exact ⟨(0), (t385), (.slice Ao23 t385.length co23), (by first | rfl | (simp; done) | (simp [*]; done)), H', ⟨Nat.le_refl _⟩, ⟨by (with_reducible repeat (first | apply Kd.qX | apply Kd.qV | apply Kd.qW)); exact Kd.qS (Kd.R_far (p := ⟨gb388, 3, none⟩) (Kd.R_far (p := ⟨gb388, 2, none⟩) (Kd.R_far (p := ⟨gb388, 1, none⟩) (Kd.R_far (p := ⟨gb388, 0, none⟩) (Kd.qY HO387.out BK388.out (by decide)) (fun _ hk => hk.2) (.slice Ao23 t385.length co23)) (fun _ hk => hk.2) (.slice none 0 0)) (fun _ hk => hk.2) (.int .i64 (-1))) (fun _ hk => hk.2) (.int .i64 (-1))) (fun _ hk => trivial)⟩, ⟨by (with_reducible repeat (first | refine qH ?_ _ | refine qI ?_ | refine qG ?_ _)); refine qR ?_ NB382_388.out _; (with_reducible repeat (first | refine qH ?_ _ | refine qI ?_ | refine qG ?_ _)); refine qR ?_ NB382_388.out _; (with_reducible repeat (first | refine qH ?_ _ | refine qI ?_ | refine qG ?_ _)); refine qR ?_ NB382_388.out _; (with_reducible repeat (first | refine qH ?_ _ | refine qI ?_ | refine qG ?_ _)); refine qR ?_ NB382_388.out _; (with_reducible repeat (first | refine qH ?_ _ | refine qI ?_ | refine qG ?_ _)); exact BK382.out⟩, ⟨by (with_reducible repeat (first | refine qH ?_ _ | refine qI ?_ | refine qG ?_ _)); refine qR ?_ NB383_388.out _; (with_reducible repeat (first | refine qH ?_ _ | refine qI ?_ | refine qG ?_ _)); refine qR ?_ NB383_388.out _; (with_reducible repeat (first | refine qH ?_ _ | refine qI ?_ | refine qG ?_ _)); refine qR ?_ NB383_388.out _; (with_reducible repeat (first | refine qH ?_ _ | refine qI ?_ | refine qG ?_ _)); refine qR ?_ NB383_388.out _; (with_reducible repeat (first | refine qH ?_ _ | refine qI ?_ | refine qG ?_ _)); exact BK383.out⟩, ⟨by (with_reducible repeat (first | refine qH ?_ _ | refine qI ?_ | refine qG ?_ _)); refine qP (cs := #[.slice Ao23 t385.length co23, .slice none 0 0, .int .i64 (-1), .int .i64 0]) ?_ 3 _ rfl; (with_reducible repeat (first | refine qH ?_ _ | refine qI ?_ | refine qG ?_ _)); refine qP (cs := #[.slice Ao23 t385.length co23, .slice none 0 0, .int .i64 0, .int .i64 0]) ?_ 2 _ rfl; (with_reducible repeat (first | refine qH ?_ _ | refine qI ?_ | refine qG ?_ _)); refine qP (cs := #[.slice Ao23 t385.length co23, .slice none 0 0, .int .i64 0, .int .i64 0]) ?_ 1 _ rfl; (with_reducible repeat (first | refine qH ?_ _ | refine qI ?_ | refine qG ?_ _)); refine qP (cs := #[.slice none 0 0, .slice none 0 0, .int .i64 0, .int .i64 0]) ?_ 0 _ rfl; (with_reducible repeat (first | refine qH ?_ _ | refine qI ?_ | refine qG ?_ _)); exact BK388.out⟩, ⟨by repeat (first | (with_reducible first | exact HB.out | apply qF | apply qC | apply qE | refine qB ?_ GE382.out | refine qB ?_ GE383.out | refine qB ?_ GE388.out) | exact HB.out)⟩⟩
        case round =>
          clear H'
          try clear c1
          try clear c2
          try clear p2
          try clear c3
          try clear c6
          try clear c9
          try clear c10
          try clear c13
          try clear c16
          try clear c17
          try clear c20
          try clear c22
          try clear c25
          try clear c26
          try clear hcz11_0
          try clear hcz11_1
          try clear hcz11_2
          try clear hcz11_3
          try clear hcz14_0
          try clear hcz14_1
          try clear hcz14_2
          try clear hcz14_3
          try clear hcz18_0
          try clear hcz18_1
          try clear hcz18_2
          try clear hcz18_3
          try clear hcz21_0
          try clear hcz21_1
          try clear hcz21_2
          try clear hcz21_3
          try clear hcz27_0
          try clear hcz27_1
          try clear hcz27_2
          try clear hcz27_3
          try clear hcz28_0
          try clear hcz28_1
          try clear hcz28_2
          try clear hcz28_3
          try clear hfz11_0
          try clear hfz11_1
          try clear hfz11_2
          try clear hfz11_3
          try clear hfz14_0
          try clear hfz14_1
          try clear hfz14_2
          try clear hfz14_3
          try clear hfz18_0
          try clear hfz18_1
          try clear hfz18_2
          try clear hfz18_3
          try clear hfz21_0
          try clear hfz21_1
          try clear hfz21_2
          try clear hfz21_3
          try clear hfz27_0
          try clear hfz27_1
          try clear hfz27_2
          try clear hfz27_3
          try clear hfz28_0
          try clear hfz28_1
          try clear hfz28_2
          try clear hfz28_3
          try clear p2
          obtain ⟨x27_2, x389000_2, u389000, rfl, HA, HK2, HO_389000, BK382, BK383, BK388, HB⟩ := hrel
          cases gk with
          | zero => exact absurd HA.out (by simp [impl_DiskCrash.l0])
          | succ k2 =>
            have H := HA.out
            clear HA
            simp only [impl_DiskCrash.l0] at H
            by_cases c29 : x27_2 < (l0_1.length : Int)
            · rw [if_pos c29] at H
              have c29b0 : decide (x27_2 < (l0_1.length : Int)) = true := decide_eq_true c29
              clear c29
              by_cases c30 : 0 ≤ x27_2
              · rw [if_pos c30] at H
                have c30b0 : decide (0 ≤ x27_2) = true := decide_eq_true c30
                clear c30
                by_cases c31 : x27_2 < (l0_1.length : Int)
                · rw [if_pos c31] at H
                  have c31b0 : decide (x27_2 < (l0_1.length : Int)) = true := decide_eq_true c31
                  clear c31
                  obtain ⟨ji32, hji32⟩ : ∃ j_ : Int, (Int.tmod x27_2 60) = j_ := ⟨_, rfl⟩
                  replace H : (if 0 ≤ (ji32) then (if (Go.bits .and .i64 (shr .i64 a1 (ji32)) 1) = 1 then (if 0 ≤ ((rd_T70 l0_1 x27_2).f0) then (if ((rd_T70 l0_1 x27_2).f0) < (x389000_2.length : Int) then (impl_DiskCrash.l0 k2 a1 a2 a3 l0_1 (l0_1.length : Int) (wrap64 (x27_2 + 1)) (x389000_2.set (((rd_T70 l0_1 x27_2).f0) : Int).toNat ((rd_T70 l0_1 x27_2).f1)) (-1) (-1)) else (none)) else (none)) else (if x27_2 = a2 then (if 0 ≤ ((rd_T70 l0_1 x27_2).f0) then (if ((rd_T70 l0_1 x27_2).f0) < (x389000_2.length : Int) then ((impl_torn.f (rdOf ByteArray.empty x389000_2 ((rd_T70 l0_1 x27_2).f0)) ((rd_T70 l0_1 x27_2).f1) a3).bind fun t393 => (impl_DiskCrash.l0 k2 a1 a2 a3 l0_1 (l0_1.length : Int) (wrap64 (x27_2 + 1)) (x389000_2.set (((rd_T70 l0_1 x27_2).f0) : Int).toNat t393) (-1) (-1))) else (none)) else (none)) else (impl_DiskCrash.l0 k2 a1 a2 a3 l0_1 (l0_1.length : Int) (wrap64 (x27_2 + 1)) x389000_2 (-1) (-1)))) else (none)) = some (r1, r2, r3, r4) := by first | (rw [hji32] at H; exact H) | (simp only [hji32] at H ⊢; exact H)
                  by_cases c33 : 0 ≤ (ji32)
                  · rw [if_pos c33] at H
                    have c33b0 := eq_true c33
                    have c33b1 : decide (0 ≤ (ji32)) = true := decide_eq_true c33
                    clear c33
                    obtain ⟨ji34, hji34⟩ : ∃ j_ : Int, (shr .i64 a1 (ji32)) = j_ := ⟨_, rfl⟩
                    replace H : (if (Go.bits .and .i64 (ji34) 1) = 1 then (if 0 ≤ ((rd_T70 l0_1 x27_2).f0) then (if ((rd_T70 l0_1 x27_2).f0) < (x389000_2.length : Int) then (impl_DiskCrash.l0 k2 a1 a2 a3 l0_1 (l0_1.length : Int) (wrap64 (x27_2 + 1)) (x389000_2.set (((rd_T70 l0_1 x27_2).f0) : Int).toNat ((rd_T70 l0_1 x27_2).f1)) (-1) (-1)) else (none)) else (none)) else (if x27_2 = a2 then (if 0 ≤ ((rd_T70 l0_1 x27_2).f0) then (if ((rd_T70 l0_1 x27_2).f0) < (x389000_2.length : Int) then ((impl_torn.f (rdOf ByteArray.empty x389000_2 ((rd_T70 l0_1 x27_2).f0)) ((rd_T70 l0_1 x27_2).f1) a3).bind fun t393 => (impl_DiskCrash.l0 k2 a1 a2 a3 l0_1 (l0_1.length : Int) (wrap64 (x27_2 + 1)) (x389000_2.set (((rd_T70 l0_1 x27_2).f0) : Int).toNat t393) (-1) (-1))) else (none)) else (none)) else (impl_DiskCrash.l0 k2 a1 a2 a3 l0_1 (l0_1.length : Int) (wrap64 (x27_2 + 1)) x389000_2 (-1) (-1)))) = some (r1, r2, r3, r4) := by first | (rw [hji34] at H; exact H) | (simp only [hji34] at H ⊢; exact H)
                    have hji34_ : (a1 / 2 ^ min (ji32).toNat 64) = ji34 := hji34
                    have hji34z : (ji32) ≤ 64 → (a1 / 2 ^ (ji32).toNat) = ji34 := shr_small hji34
                    by_cases c35 : (Go.bits .and .i64 (ji34) 1) = 1
                    · rw [if_pos c35] at H
                      have c35b0 : ((Go.bits .and .i64 (ji34) 1) == 1) = true := beq_iff_eq.mpr c35
                      have c35b1 : ((Go.bits .and .i64 (ji34) 1) != 1) = false := bne_eq_false_iff_eq.mpr c35
                      clear c35
                      by_cases c36 : 0 ≤ ((rd_T70 l0_1 x27_2).f0)
                      · rw [if_pos c36] at H
                        have c36b0 : decide (0 ≤ ((rd_T70 l0_1 x27_2).f0)) = true := decide_eq_true c36
                        clear c36
                        by_cases c37 : ((rd_T70 l0_1 x27_2).f0) < (x389000_2.length : Int)
                        · rw [if_pos c37] at H
                          have c37b0 : decide (((rd_T70 l0_1 x27_2).f0) < (x389000_2.length : Int)) = true := decide_eq_true c37
                          clear c37
                          obtain ⟨y391, hy391⟩ : ∃ y_ : List ByteArray, y_ = (x389000_2.set (((rd_T70 l0_1 x27_2).f0) : Int).toNat ((rd_T70 l0_1 x27_2).f1)) := ⟨_, rfl⟩
                          replace H : (impl_DiskCrash.l0 k2 a1 a2 a3 l0_1 (l0_1.length : Int) (wrap64 (x27_2 + 1)) y391 (-1) (-1)) = some (r1, r2, r3, r4) := by first | (rw [hy391]; with_reducible exact H) | (have H2_ := (Option.bind_some _ _).symm.trans H; rw [hy391]; with_reducible exact H2_) | (have H2_ := (Option.bind_some _ _).symm.trans H; with_reducible exact H2_) | with_reducible exact H | (rw [hy391]; exact H) | exact H
                          have Ny391 := Aside0.mk hy391
                          clear hy391
                          have H' := Aside0.mk H
                          clear H
                          have p389 : 0 ≤ (x27_2 : Int) := of_decide_eq_true (by first | (with_reducible assumption) | assumption)
                          have q389 : x27_2 < (l0_1.length : Int) := of_decide_eq_true (by first | (with_reducible assumption) | assumption)
                          obtain ⟨ad389, e389, hx389_0, hx389_1⟩ := at_T70 HR0_1.out x27_2 p389 q389
                          cases e389
                          replace hx389_0 := (HB.out.cell (World.block_lt_of_cell? w _ hx389_0)).trans hx389_0
                          replace hx389_1 := (HB.out.cell (World.block_lt_of_cell? w _ hx389_1)).trans hx389_1
                          replace p389 := eq_true p389
                          replace q389 := eq_true q389
                          go_wp2_with (first | ((with_reducible refine zB (N := 11) rfl ?_); refine qZ ?hg (N := 11) ?hd (cs := #[.int .i64 0, .string (⟨#[]⟩ : ByteArray)]) (t := 70) ?hr ?_; (case hd => rfl); (case hg => rfl); (case hr => first | (go_simp; done) | (go_simp; rfl)); intro gb390 hg w39 hbox hb; have n0_ := Aside0.mk (Kd.qU (rw_ HO_389000.out) hb); have n1_ := Aside0.mk (qJ (g := gb382) (o := .cells #[.slice A0_0 l0_0.length c0_0, .slice (some ad389) l0_1.length c0_1, .int .i64 a0_2, .int .i64 a0_3] 26 (0, 0)) (bw_ BK382.out) hb); have n2_ := Aside0.mk (qJ (g := gb383) (o := .cells #[.slice none 0 0, .slice none 0 0, .int .i64 0, .int .i64 0] 26 (0, 0)) (bw_ BK383.out) hb); have n3_ := Aside0.mk (qJ (g := gb388) (o := .cells #[u389000, .slice none 0 0, .int .i64 (-1), .int .i64 (-1)] 26 (0, 0)) (bw_ BK388.out) hb); have n4_ := Aside0.mk (qN (by repeat (first | (with_reducible first | exact HB.out | apply qF | apply qC | apply qE | refine qB ?_ GE382.out | refine qB ?_ GE383.out | refine qB ?_ GE388.out) | exact HB.out)) hb); have n5_ := Aside0.mk (hbox); have n6_ := Aside0.mk ((by rw [hg]; exact (qM (by repeat (first | (with_reducible first | exact HB.out | apply qF | apply qC | apply qE | refine qB ?_ GE382.out | refine qB ?_ GE383.out | refine qB ?_ GE388.out) | exact HB.out))) : w.heap.size ≤ gb390)); have n7_ := Aside0.mk ((by rw [hg]; exact (qM (by repeat (first | (with_reducible first | exact HB.out | apply qF | apply qC | apply qE | refine qB ?_ GE382.out | refine qB ?_ GE383.out | refine qB ?_ GE388.out) | exact HB.out))) : w.heap.size ≤ gb390)); have n8_ := Aside0.mk ((by rw [hg]; exact Nat.ne_of_lt (zE (g := gb382) (o := .cells #[.slice A0_0 l0_0.length c0_0, .slice (some ad389) l0_1.length c0_1, .int .i64 a0_2, .int .i64 a0_3] 26 (0, 0)) (bw_ BK382.out)) : gb382 ≠ gb390)); have n9_ := Aside0.mk ((by rw [hg]; exact Nat.ne_of_gt (zE (g := gb382) (o := .cells #[.slice A0_0 l0_0.length c0_0, .slice (some ad389) l0_1.length c0_1, .int .i64 a0_2, .int .i64 a0_3] 26 (0, 0)) (bw_ BK382.out)) : gb390 ≠ gb382)); have n10_ := Aside0.mk ((by rw [hg]; exact Nat.ne_of_lt (zE (g := gb383) (o := .cells #[.slice none 0 0, .slice none 0 0, .int .i64 0, .int .i64 0] 26 (0, 0)) (bw_ BK383.out)) : gb383 ≠ gb390)); have n11_ := Aside0.mk ((by rw [hg]; exact Nat.ne_of_gt (zE (g := gb383) (o := .cells #[.slice none 0 0, .slice none 0 0, .int .i64 0, .int .i64 0] 26 (0, 0)) (bw_ BK383.out)) : gb390 ≠ gb383)); have n12_ := Aside0.mk ((by rw [hg]; exact Nat.ne_of_lt (zE (g := gb388) (o := .cells #[u389000, .slice none 0 0, .int .i64 (-1), .int .i64 (-1)] 26 (0, 0)) (bw_ BK388.out)) : gb388 ≠ gb390)); have n13_ := Aside0.mk ((by rw [hg]; exact Nat.ne_of_gt (zE (g := gb388) (o := .cells #[u389000, .slice none 0 0, .int .i64 (-1), .int .i64 (-1)] 26 (0, 0)) (bw_ BK388.out)) : gb390 ≠ gb388)); clear HO_389000; clear BK382; clear BK383; clear BK388; clear HB; have HO_389000 := n0_; have BK382 := n1_; have BK383 := n2_; have BK388 := n3_; have HB := n4_; have BK390 := n5_; have GW390 := n6_; have GE390 := n7_; have NB382_390 := n8_; have NB390_382 := n9_; have NB383_390 := n10_; have NB390_383 := n11_; have NB388_390 := n12_; have NB390_388 := n13_; clear n0_ n1_ n2_ n3_ n4_ n5_ n6_ n7_ n8_ n9_ n10_ n11_ n12_ n13_; clear hb hbox hg; have hnb40 := NB390_382.out; have hnc40 := NB382_390.out; have hnb41 := NB390_383.out; have hnc41 := NB383_390.out; have hnb42 := NB390_388.out; have hnc42 := NB388_390.out; have hcz43_0 : w39.cell? ⟨gb390, 0, none⟩ = some (.int .i64 0) := (qA BK390.out 0).trans rfl; have hcz43_1 : w39.cell? ⟨gb390, 1, none⟩ = some (.string (⟨#[]⟩ : ByteArray)) := (qA BK390.out 1).trans rfl; have hfz43_0 := qD BK390.out 0; have hfz43_1 := qD BK390.out 1) | ((with_reducible refine gate_store (t := 70) (p := 11) rfl ?_); refine store_event (t := 70) (p := 11) (v := ?vo_w44) (w1 := ((w39.setCell ⟨gb390, 0, none⟩ (.int .i64 ((rd_T70 l0_1 x27_2).f0))).setCell ⟨gb390, 1, none⟩ (.string ((rd_T70 l0_1 x27_2).f1)))) ?hg ?ho ?hn ?hr ?_; (case ho => rfl); (case hg => rfl); (case hn => rfl); (case hr => first | (go_simp; done) | (go_simp; rfl)); intro w44 hw; have n0_ : Aside0 (Kd.R Kd.string 9 w44 w.heap.size (fun _ => True) u389000 x389000_2) := ⟨(by rw [hw]; exact (by (with_reducible repeat (first | apply Kd.qX | apply Kd.qV | apply Kd.qW)); exact Kd.qS (Kd.R_far (p := ⟨gb390, 1, none⟩) (Kd.R_far (p := ⟨gb390, 0, none⟩) (Kd.qY HO_389000.out BK390.out (by decide)) (fun _ hk => hk.2) (.int .i64 ((rd_T70 l0_1 x27_2).f0))) (fun _ hk => hk.2) (.string ((rd_T70 l0_1 x27_2).f1))) (fun _ hk => trivial)))⟩; have n1_ : Aside0 (w44.heap[gb382]? = some (.cells #[.slice A0_0 l0_0.length c0_0, .slice (some ad389) l0_1.length c0_1, .int .i64 a0_2, .int .i64 a0_3] 26 (0, 0))) := ⟨(by rw [hw]; exact (by (with_reducible repeat (first | refine qH ?_ _ | refine qI ?_ | refine qG ?_ _)); refine qR ?_ NB382_390.out _; (with_reducible repeat (first | refine qH ?_ _ | refine qI ?_ | refine qG ?_ _)); refine qR ?_ NB382_390.out _; (with_reducible repeat (first | refine qH ?_ _ | refine qI ?_ | refine qG ?_ _)); exact BK382.out))⟩; have n2_ : Aside0 (w44.heap[gb383]? = some (.cells #[.slice none 0 0, .slice none 0 0, .int .i64 0, .int .i64 0] 26 (0, 0))) := ⟨(by rw [hw]; exact (by (with_reducible repeat (first | refine qH ?_ _ | refine qI ?_ | refine qG ?_ _)); refine qR ?_ NB383_390.out _; (with_reducible repeat (first | refine qH ?_ _ | refine qI ?_ | refine qG ?_ _)); refine qR ?_ NB383_390.out _; (with_reducible repeat (first | refine qH ?_ _ | refine qI ?_ | refine qG ?_ _)); exact BK383.out))⟩; have n3_ : Aside0 (w44.heap[gb388]? = some (.cells #[u389000, .slice none 0 0, .int .i64 (-1), .int .i64 (-1)] 26 (0, 0))) := ⟨(by rw [hw]; exact (by (with_reducible repeat (first | refine qH ?_ _ | refine qI ?_ | refine qG ?_ _)); refine qR ?_ NB388_390.out _; (with_reducible repeat (first | refine qH ?_ _ | refine qI ?_ | refine qG ?_ _)); refine qR ?_ NB388_390.out _; (with_reducible repeat (first | refine qH ?_ _ | refine qI ?_ | refine qG ?_ _)); exact BK388.out))⟩; have n4_ : Aside0 (w44.heap[gb390]? = some (.cells #[.int .i64 ((rd_T70 l0_1 x27_2).f0), .string ((rd_T70 l0_1 x27_2).f1)] 70 (0, 0))) := ⟨(by rw [hw]; exact (by (with_reducible repeat (first | refine qH ?_ _ | refine qI ?_ | refine qG ?_ _)); refine qP (cs := #[.int .i64 ((rd_T70 l0_1 x27_2).f0), .string (⟨#[]⟩ : ByteArray)]) ?_ 1 _ rfl; (with_reducible repeat (first | refine qH ?_ _ | refine qI ?_ | refine qG ?_ _)); refine qP (cs := #[.int .i64 0, .string (⟨#[]⟩ : ByteArray)]) ?_ 0 _ rfl; (with_reducible repeat (first | refine qH ?_ _ | refine qI ?_ | refine qG ?_ _)); exact BK390.out))⟩; have n5_ : Aside0 (Below w.heap.size w w44) := ⟨(by rw [hw]; exact (by repeat (first | (with_reducible first | exact HB.out | apply qF | apply qC | apply qE | refine qB ?_ GE382.out | refine qB ?_ GE383.out | refine qB ?_ GE388.out | refine qB ?_ GE390.out) | exact HB.out)))⟩; clear hw; clear HO_389000; clear BK382; clear BK383; clear BK388; clear BK390; clear HB; have HO_389000 := n0_; have BK382 := n1_; have BK383 := n2_; have BK388 := n3_; have BK390 := n4_; have HB := n5_; clear n0_ n1_ n2_ n3_ n4_ n5_; have hnb45 := NB388_382.out; have hnc45 := NB382_388.out; have hnb46 := NB388_383.out; have hnc46 := NB383_388.out; have hcz47_0 : w44.cell? ⟨gb388, 0, none⟩ = some (u389000) := (qA BK388.out 0).trans rfl; have hcz47_1 : w44.cell? ⟨gb388, 1, none⟩ = some (.slice none 0 0) := (qA BK388.out 1).trans rfl; have hcz47_2 : w44.cell? ⟨gb388, 2, none⟩ = some (.int .i64 (-1)) := (qA BK388.out 2).trans rfl; have hcz47_3 : w44.cell? ⟨gb388, 3, none⟩ = some (.int .i64 (-1)) := (qA BK388.out 3).trans rfl; have hfz47_0 := qD BK388.out 0; have hfz47_1 := qD BK388.out 1; have hfz47_2 := qD BK388.out 2; have hfz47_3 := qD BK388.out 3; have hcz48_0 : w44.cell? ⟨gb390, 0, none⟩ = some (.int .i64 ((rd_T70 l0_1 x27_2).f0)) := (qA BK390.out 0).trans rfl; have hcz48_1 : w44.cell? ⟨gb390, 1, none⟩ = some (.string ((rd_T70 l0_1 x27_2).f1)) := (qA BK390.out 1).trans rfl; have hfz48_0 := qD BK390.out 0; have hfz48_1 := qD BK390.out 1; have p38 : 0 ≤ (((rd_T70 l0_1 x27_2).f0) : Int) := of_decide_eq_true (by first | (with_reducible assumption) | assumption); have q38 : (((rd_T70 l0_1 x27_2).f0) : Int) < ((x389000_2.length : Int) : Int) := of_decide_eq_true (by first | (with_reducible assumption) | assumption); obtain ⟨go38, co38, eo38, gb38, gl38, cl38, HG38⟩ := Kd.R_form HO_389000.out (by omega); (first | cases eo38 | (injection eo38 with ea_ en_ ec_; (first | subst ea_ | (injection ea_ with ea_; subst ea_)); subst ec_; clear en_)); have GB38 := Aside0.mk gb38; have GG38 := Aside0.mk HG38; clear gb38 gl38 HG38; obtain ⟨hx38_0, hf38_0⟩ := Kd.R_celln (⟨#[]⟩ : ByteArray) HO_389000.out (((rd_T70 l0_1 x27_2).f0) : Int) p38 q38; replace p38 := eq_true p38; replace q38 := eq_true q38; obtain ⟨hy49_, hz49_⟩ := Kd.R_celln (⟨#[]⟩ : ByteArray) HO_389000.out (((rd_T70 l0_1 x27_2).f0) : Int) (of_decide_eq_true (by first | (with_reducible assumption) | assumption)) (of_decide_eq_true (by first | (with_reducible assumption) | assumption)); have HP49 := Kd.R_putg HO_389000.out (((rd_T70 l0_1 x27_2).f0) : Int) ((rd_T70 l0_1 x27_2).f1)) | ((with_reducible refine gate_store (t := 9) (p := 45) rfl ?_); refine store_event (t := 9) (p := 45) (v := ?vo_w50) (w1 := (w44.setCell ⟨go38, (((rd_T70 l0_1 x27_2).f0) : Int).toNat, none⟩ (.string ((rd_T70 l0_1 x27_2).f1)))) ?hg ?ho ?hn ?hr ?_; (case ho => rfl); (case hg => rfl); (case hn => rfl); (case hr => first | (go_simp; done) | (go_simp; rfl)); intro w50 hw; have hg : w44.grownBy w50 (some go38) := (by rw [hw]; exact HP49.2); have hp_ : Kd.R Kd.string 9 w50 w.heap.size (fun _ => True) (.slice (some ⟨go38, 0, none⟩) x389000_2.length co38) y391 := (by rw [hw, Ny391.out]; exact HP49.1); clear HP49; have n0_ := Aside0.mk (hp_); have n1_ := Aside0.mk (zT (g := gb382) (o := .cells #[.slice A0_0 l0_0.length c0_0, .slice (some ad389) l0_1.length c0_1, .int .i64 a0_2, .int .i64 a0_3] 26 (0, 0)) (bw_ BK382.out) hg (Kd.R_ne HO_389000.out BK382.out (by decide))); have n2_ := Aside0.mk (zT (g := gb383) (o := .cells #[.slice none 0 0, .slice none 0 0, .int .i64 0, .int .i64 0] 26 (0, 0)) (bw_ BK383.out) hg (Kd.R_ne HO_389000.out BK383.out (by decide))); have n3_ := Aside0.mk (zT (g := gb388) (o := .cells #[.slice (some ⟨go38, 0, none⟩) x389000_2.length co38, .slice none 0 0, .int .i64 (-1), .int .i64 (-1)] 26 (0, 0)) (bw_ BK388.out) hg (Kd.R_ne HO_389000.out BK388.out (by decide))); have n4_ := Aside0.mk (zT (g := gb390) (o := .cells #[.int .i64 ((rd_T70 l0_1 x27_2).f0), .string ((rd_T70 l0_1 x27_2).f1)] 70 (0, 0)) (bw_ BK390.out) hg (Kd.R_ne HO_389000.out BK390.out (by decide))); have n5_ := Aside0.mk ((by rw [hw]; exact qB (HB.out) GB38.out : Below w.heap.size w w50)); clear HO_389000; clear BK382; clear BK383; clear BK388; clear BK390; clear HB; have HO_389000 := n0_; have BK382 := n1_; have BK383 := n2_; have BK388 := n3_; have BK390 := n4_; have HB := n5_; clear n0_ n1_ n2_ n3_ n4_ n5_; clear hg hw hp_))
                          go_roundg k2
                          case measure => have := HJ4.out; have := HK2.out; omega
                          case rel => exact ⟨(wrap64 (x27_2 + 1)), (y391), (.slice (some ⟨go38, 0, none⟩) x389000_2.length co38), (by first | rfl | (simp; done) | (simp [*]; done)), H', ⟨by have := HJ4.out; have := HK2.out; omega⟩, ⟨by (with_reducible repeat (first | apply Kd.qX | apply Kd.qV | apply Kd.qW)); exact HO_389000.out⟩, ⟨by (with_reducible repeat (first | refine qH ?_ _ | refine qI ?_ | refine qG ?_ _)); exact BK382.out⟩, ⟨by (with_reducible repeat (first | refine qH ?_ _ | refine qI ?_ | refine qG ?_ _)); exact BK383.out⟩, ⟨by (with_reducible repeat (first | refine qH ?_ _ | refine qI ?_ | refine qG ?_ _)); exact BK388.out⟩, ⟨by repeat (first | (with_reducible first | exact HB.out | apply qF | apply qC | apply qE | refine qB ?_ GE382.out | refine qB ?_ GE383.out | refine qB ?_ GE388.out | refine qB ?_ GE390.out) | exact HB.out)⟩⟩
                        · rw [if_neg c37] at H
                          exact absurd H (by simp)
                      · rw [if_neg c36] at H
                        exact absurd H (by simp)
                    · rw [if_neg c35] at H
                      have c35b0 : ((Go.bits .and .i64 (ji34) 1) == 1) = false := beq_eq_false_iff_ne.mpr c35
                      have c35b1 : ((Go.bits .and .i64 (ji34) 1) != 1) = true := bne_iff_ne.mpr c35
                      by_cases c51 : x27_2 = a2
                      · rw [if_pos c51] at H
                        have c51b0 : (x27_2 == a2) = true := beq_iff_eq.mpr c51
                        have c51b1 : (x27_2 != a2) = false := bne_eq_false_iff_eq.mpr c51
                        clear c51
                        by_cases c52 : 0 ≤ ((rd_T70 l0_1 x27_2).f0)
                        · rw [if_pos c52] at H
                          have c52b0 : decide (0 ≤ ((rd_T70 l0_1 x27_2).f0)) = true := decide_eq_true c52
                          clear c52
                          by_cases c53 : ((rd_T70 l0_1 x27_2).f0) < (x389000_2.length : Int)
                          · rw [if_pos c53] at H
                            have c53b0 : decide (((rd_T70 l0_1 x27_2).f0) < (x389000_2.length : Int)) = true := decide_eq_true c53
                            clear c53
                            replace H := Option.bind_eq_some_iff.mp H
                            obtain ⟨t393, A540, H⟩ := H
                            replace H : (impl_DiskCrash.l0 k2 a1 a2 a3 l0_1 (l0_1.length : Int) (wrap64 (x27_2 + 1)) (x389000_2.set (((rd_T70 l0_1 x27_2).f0) : Int).toNat t393) (-1) (-1)) = some (r1, r2, r3, r4) := H
                            have A54 := Aside0.mk A540
                            clear A540
                            obtain ⟨y394, hy394⟩ : ∃ y_ : List ByteArray, y_ = (x389000_2.set (((rd_T70 l0_1 x27_2).f0) : Int).toNat t393) := ⟨_, rfl⟩
                            replace H : (impl_DiskCrash.l0 k2 a1 a2 a3 l0_1 (l0_1.length : Int) (wrap64 (x27_2 + 1)) y394 (-1) (-1)) = some (r1, r2, r3, r4) := by first | (rw [hy394]; with_reducible exact H) | (have H2_ := (Option.bind_some _ _).symm.trans H; rw [hy394]; with_reducible exact H2_) | (have H2_ := (Option.bind_some _ _).symm.trans H; with_reducible exact H2_) | with_reducible exact H | (rw [hy394]; exact H) | exact H
                            have Ny394 := Aside0.mk hy394
                            clear hy394
                            have H' := Aside0.mk H
                            clear H
                            have p389 : 0 ≤ (x27_2 : Int) := of_decide_eq_true (by first | (with_reducible assumption) | assumption)
                            have q389 : x27_2 < (l0_1.length : Int) := of_decide_eq_true (by first | (with_reducible assumption) | assumption)
                            obtain ⟨ad389, e389, hx389_0, hx389_1⟩ := at_T70 HR0_1.out x27_2 p389 q389
                            cases e389
                            replace hx389_0 := (HB.out.cell (World.block_lt_of_cell? w _ hx389_0)).trans hx389_0
                            replace hx389_1 := (HB.out.cell (World.block_lt_of_cell? w _ hx389_1)).trans hx389_1
                            replace p389 := eq_true p389
                            replace q389 := eq_true q389
                            try go_wp2_with (first | ((with_reducible refine zB (N := 11) rfl ?_); refine qZ ?hg (N := 11) ?hd (cs := #[.int .i64 0, .string (⟨#[]⟩ : ByteArray)]) (t := 70) ?hr ?_; (case hd => rfl); (case hg => rfl); (case hr => first | (go_simp; done) | (go_simp; rfl)); intro gb390 hg w56 hbox hb; have n0_ := Aside0.mk (Kd.qU (rw_ HO_389000.out) hb); have n1_ := Aside0.mk (qJ (g := gb382) (o := .cells #[.slice A0_0 l0_0.length c0_0, .slice (some ad389) l0_1.length c0_1, .int .i64 a0_2, .int .i64 a0_3] 26 (0, 0)) (bw_ BK382.out) hb); have n2_ := Aside0.mk (qJ (g := gb383) (o := .cells #[.slice none 0 0, .slice none 0 0, .int .i64 0, .int .i64 0] 26 (0, 0)) (bw_ BK383.out) hb); have n3_ := Aside0.mk (qJ (g := gb388) (o := .cells #[u389000, .slice none 0 0, .int .i64 (-1), .int .i64 (-1)] 26 (0, 0)) (bw_ BK388.out) hb); have n4_ := Aside0.mk (qN (by repeat (first | (with_reducible first | exact HB.out | apply qF | apply qC | apply qE | refine qB ?_ GE382.out | refine qB ?_ GE383.out | refine qB ?_ GE388.out) | exact HB.out)) hb); have n5_ := Aside0.mk (hbox); have n6_ := Aside0.mk ((by rw [hg]; exact (qM (by repeat (first | (with_reducible first | exact HB.out | apply qF | apply qC | apply qE | refine qB ?_ GE382.out | refine qB ?_ GE383.out | refine qB ?_ GE388.out) | exact HB.out))) : w.heap.size ≤ gb390)); have n7_ := Aside0.mk ((by rw [hg]; exact (qM (by repeat (first | (with_reducible first | exact HB.out | apply qF | apply qC | apply qE | refine qB ?_ GE382.out | refine qB ?_ GE383.out | refine qB ?_ GE388.out) | exact HB.out))) : w.heap.size ≤ gb390)); have n8_ := Aside0.mk ((by rw [hg]; exact Nat.ne_of_lt (zE (g := gb382) (o := .cells #[.slice A0_0 l0_0.length c0_0, .slice (some ad389) l0_1.length c0_1, .int .i64 a0_2, .int .i64 a0_3] 26 (0, 0)) (bw_ BK382.out)) : gb382 ≠ gb390)); have n9_ := Aside0.mk ((by rw [hg]; exact Nat.ne_of_gt (zE (g := gb382) (o := .cells #[.slice A0_0 l0_0.length c0_0, .slice (some ad389) l0_1.length c0_1, .int .i64 a0_2, .int .i64 a0_3] 26 (0, 0)) (bw_ BK382.out)) : gb390 ≠ gb382)); have n10_ := Aside0.mk ((by rw [hg]; exact Nat.ne_of_lt (zE (g := gb383) (o := .cells #[.slice none 0 0, .slice none 0 0, .int .i64 0, .int .i64 0] 26 (0, 0)) (bw_ BK383.out)) : gb383 ≠ gb390)); have n11_ := Aside0.mk ((by rw [hg]; exact Nat.ne_of_gt (zE (g := gb383) (o := .cells #[.slice none 0 0, .slice none 0 0, .int .i64 0, .int .i64 0] 26 (0, 0)) (bw_ BK383.out)) : gb390 ≠ gb383)); have n12_ := Aside0.mk ((by rw [hg]; exact Nat.ne_of_lt (zE (g := gb388) (o := .cells #[u389000, .slice none 0 0, .int .i64 (-1), .int .i64 (-1)] 26 (0, 0)) (bw_ BK388.out)) : gb388 ≠ gb390)); have n13_ := Aside0.mk ((by rw [hg]; exact Nat.ne_of_gt (zE (g := gb388) (o := .cells #[u389000, .slice none 0 0, .int .i64 (-1), .int .i64 (-1)] 26 (0, 0)) (bw_ BK388.out)) : gb390 ≠ gb388)); clear HO_389000; clear BK382; clear BK383; clear BK388; clear HB; have HO_389000 := n0_; have BK382 := n1_; have BK383 := n2_; have BK388 := n3_; have HB := n4_; have BK390 := n5_; have GW390 := n6_; have GE390 := n7_; have NB382_390 := n8_; have NB390_382 := n9_; have NB383_390 := n10_; have NB390_383 := n11_; have NB388_390 := n12_; have NB390_388 := n13_; clear n0_ n1_ n2_ n3_ n4_ n5_ n6_ n7_ n8_ n9_ n10_ n11_ n12_ n13_; clear hb hbox hg; have hnb57 := NB390_382.out; have hnc57 := NB382_390.out; have hnb58 := NB390_383.out; have hnc58 := NB383_390.out; have hnb59 := NB390_388.out; have hnc59 := NB388_390.out; have hcz60_0 : w56.cell? ⟨gb390, 0, none⟩ = some (.int .i64 0) := (qA BK390.out 0).trans rfl; have hcz60_1 : w56.cell? ⟨gb390, 1, none⟩ = some (.string (⟨#[]⟩ : ByteArray)) := (qA BK390.out 1).trans rfl; have hfz60_0 := qD BK390.out 0; have hfz60_1 := qD BK390.out 1))
                            have n0_ : Aside0 (Kd.R Kd.string 9 ((w56.setCell ⟨gb390, 0, none⟩ (.int .i64 ((rd_T70 l0_1 x27_2).f0))).setCell ⟨gb390, 1, none⟩ (.string ((rd_T70 l0_1 x27_2).f1))) w.heap.size (fun _ => True) u389000 x389000_2) := ⟨by (with_reducible repeat (first | apply Kd.qX | apply Kd.qV | apply Kd.qW)); exact Kd.qS (Kd.R_far (p := ⟨gb390, 1, none⟩) (Kd.R_far (p := ⟨gb390, 0, none⟩) (Kd.qY HO_389000.out BK390.out (by decide)) (fun _ hk => hk.2) (.int .i64 ((rd_T70 l0_1 x27_2).f0))) (fun _ hk => hk.2) (.string ((rd_T70 l0_1 x27_2).f1))) (fun _ hk => trivial)⟩
                            have n1_ : Aside0 (((w56.setCell ⟨gb390, 0, none⟩ (.int .i64 ((rd_T70 l0_1 x27_2).f0))).setCell ⟨gb390, 1, none⟩ (.string ((rd_T70 l0_1 x27_2).f1))).heap[gb382]? = some (.cells #[.slice A0_0 l0_0.length c0_0, .slice (some ad389) l0_1.length c0_1, .int .i64 a0_2, .int .i64 a0_3] 26 (0, 0))) := ⟨by (with_reducible repeat (first | refine qH ?_ _ | refine qI ?_ | refine qG ?_ _)); refine qR ?_ NB382_390.out _; (with_reducible repeat (first | refine qH ?_ _ | refine qI ?_ | refine qG ?_ _)); refine qR ?_ NB382_390.out _; (with_reducible repeat (first | refine qH ?_ _ | refine qI ?_ | refine qG ?_ _)); exact BK382.out⟩
                            have n2_ : Aside0 (((w56.setCell ⟨gb390, 0, none⟩ (.int .i64 ((rd_T70 l0_1 x27_2).f0))).setCell ⟨gb390, 1, none⟩ (.string ((rd_T70 l0_1 x27_2).f1))).heap[gb383]? = some (.cells #[.slice none 0 0, .slice none 0 0, .int .i64 0, .int .i64 0] 26 (0, 0))) := ⟨by (with_reducible repeat (first | refine qH ?_ _ | refine qI ?_ | refine qG ?_ _)); refine qR ?_ NB383_390.out _; (with_reducible repeat (first | refine qH ?_ _ | refine qI ?_ | refine qG ?_ _)); refine qR ?_ NB383_390.out _; (with_reducible repeat (first | refine qH ?_ _ | refine qI ?_ | refine qG ?_ _)); exact BK383.out⟩
                            have n3_ : Aside0 (((w56.setCell ⟨gb390, 0, none⟩ (.int .i64 ((rd_T70 l0_1 x27_2).f0))).setCell ⟨gb390, 1, none⟩ (.string ((rd_T70 l0_1 x27_2).f1))).heap[gb388]? = some (.cells #[u389000, .slice none 0 0, .int .i64 (-1), .int .i64 (-1)] 26 (0, 0))) := ⟨by (with_reducible repeat (first | refine qH ?_ _ | refine qI ?_ | refine qG ?_ _)); refine qR ?_ NB388_390.out _; (with_reducible repeat (first | refine qH ?_ _ | refine qI ?_ | refine qG ?_ _)); refine qR ?_ NB388_390.out _; (with_reducible repeat (first | refine qH ?_ _ | refine qI ?_ | refine qG ?_ _)); exact BK388.out⟩
                            have n4_ : Aside0 (((w56.setCell ⟨gb390, 0, none⟩ (.int .i64 ((rd_T70 l0_1 x27_2).f0))).setCell ⟨gb390, 1, none⟩ (.string ((rd_T70 l0_1 x27_2).f1))).heap[gb390]? = some (.cells #[.int .i64 ((rd_T70 l0_1 x27_2).f0), .string ((rd_T70 l0_1 x27_2).f1)] 70 (0, 0))) := ⟨by (with_reducible repeat (first | refine qH ?_ _ | refine qI ?_ | refine qG ?_ _)); refine qP (cs := #[.int .i64 ((rd_T70 l0_1 x27_2).f0), .string (⟨#[]⟩ : ByteArray)]) ?_ 1 _ rfl; (with_reducible repeat (first | refine qH ?_ _ | refine qI ?_ | refine qG ?_ _)); refine qP (cs := #[.int .i64 0, .string (⟨#[]⟩ : ByteArray)]) ?_ 0 _ rfl; (with_reducible repeat (first | refine qH ?_ _ | refine qI ?_ | refine qG ?_ _)); exact BK390.out⟩
                            have n5_ : Aside0 (Below w.heap.size w ((w56.setCell ⟨gb390, 0, none⟩ (.int .i64 ((rd_T70 l0_1 x27_2).f0))).setCell ⟨gb390, 1, none⟩ (.string ((rd_T70 l0_1 x27_2).f1)))) := ⟨by repeat (first | (with_reducible first | exact HB.out | apply qF | apply qC | apply qE | refine qB ?_ GE382.out | refine qB ?_ GE383.out | refine qB ?_ GE388.out | refine qB ?_ GE390.out) | exact HB.out)⟩
                            (try clear HO_389000)
                            (try clear BK382)
                            (try clear BK383)
                            (try clear BK388)
                            (try clear BK390)
                            (try clear HB)
                            generalize ((w56.setCell ⟨gb390, 0, none⟩ (.int .i64 ((rd_T70 l0_1 x27_2).f0))).setCell ⟨gb390, 1, none⟩ (.string ((rd_T70 l0_1 x27_2).f1))) = w61 at n0_ n1_ n2_ n3_ n4_ n5_ ⊢
                            have HO_389000 := n0_
                            have BK382 := n1_
                            have BK383 := n2_
                            have BK388 := n3_
                            have BK390 := n4_
                            have HB := n5_
                            clear n0_ n1_ n2_ n3_ n4_ n5_
                            have n0_ := Aside0.mk (Kd.qW HO_389000.out)
                            have n1_ := Aside0.mk (qI BK382.out)
                            have n2_ := Aside0.mk (qI BK383.out)
                            have n3_ := Aside0.mk (qI BK388.out)
                            have n4_ := Aside0.mk (qI BK390.out)
                            have n5_ := Aside0.mk (qE HB.out)
                            clear HO_389000
                            clear BK382
                            clear BK383
                            clear BK388
                            clear BK390
                            clear HB
                            have HO_389000 := n0_
                            have BK382 := n1_
                            have BK383 := n2_
                            have BK388 := n3_
                            have BK390 := n4_
                            have HB := n5_
                            clear n0_ n1_ n2_ n3_ n4_ n5_
                            obtain ⟨Ao63, co63, eo63⟩ := Kd.zG HO_389000.out
                            (first | subst eo63 | (injection eo63 with f1_ f2_ f3_; have f4_ := f1_.symm; have f5_ := f3_.symm; clear f1_ f2_ f3_; subst f4_; subst f5_))
                            have p392 : 0 ≤ (((rd_T70 l0_1 x27_2).f0) : Int) := of_decide_eq_true (by first | (with_reducible assumption) | assumption)
                            have q392 : ((rd_T70 l0_1 x27_2).f0) < (x389000_2.length : Int) := of_decide_eq_true (by first | (with_reducible assumption) | assumption)
                            obtain ⟨ad392, e392, hx392_0⟩ := Kd.xF (Kd.zA HO_389000.out).2.2 ((rd_T70 l0_1 x27_2).f0) p392 q392
                            cases e392
                            replace p392 := eq_true p392
                            replace q392 := eq_true q392
                            refine start_ (n := 16) (S := fun w' => w'.cell? ⟨gb388, 0, none⟩ = some (.slice (some ad392) x389000_2.length co63) ∧ w'.cell? ⟨gb388, 1, none⟩ = some (.slice none 0 0) ∧ w'.cell? ⟨gb388, 2, none⟩ = some (.int .i64 (-1)) ∧ w'.cell? ⟨gb388, 3, none⟩ = some (.int .i64 (-1)) ∧ w'.cell? ⟨gb390, 0, none⟩ = some (.int .i64 ((rd_T70 l0_1 x27_2).f0)) ∧ w'.cell? ⟨gb390, 1, none⟩ = some (.string ((rd_T70 l0_1 x27_2).f1)) ∧ w'.cell? (ad392.add (((rd_T70 l0_1 x27_2).f0)).toNat) = some (.string (rdOf ByteArray.empty x389000_2 ((rd_T70 l0_1 x27_2).f0)))) (ds := [15]) #[false, false, false, false, false, false, false, false, false, false, false, false, false, false, false, false] (by kernel_rfl) rfl rfl ⟨(qA BK388.out 0).trans rfl, (qA BK388.out 1).trans rfl, (qA BK388.out 2).trans rfl, (qA BK388.out 3).trans rfl, (qA BK390.out 0).trans rfl, (qA BK390.out 1).trans rfl, hx392_0⟩ (fun hHeld => ?_); refine with_tabW impl_DiskCrash.tab10 impl_DiskCrash.bits10 (fun HT_ HW_ => ?_)
                            generalize w61.drew = w62 at HO_389000 BK382 BK383 BK388 BK390 HB hx392_0 hHeld ⊢
                            refine pure_ (i := 0) (N := some 50) (v := ?_) (a' := ?_) #[true, false, false, false, false, false, false, false, false, false, false, false, false, false, false, false] rfl rfl (zK HT_.out (by kernel_rfl)) (fun _ _ _ h => h) (Or.inl ⟨by rfl, ?_⟩) ?_ ?_
                            rotate_left
                            · intro w'
                              go_simp
                              with_reducible rfl
                            rotate_left
                            · simp only [Act.put, List.setIfInBounds_toArray, List.set_cons_zero, List.set_cons_succ, i64_w, i32_w]
                              rfl
                            refine pure_ (i := 2) (N := some 52) (v := ?_) (a' := ?_) #[true, false, true, false, false, false, false, false, false, false, false, false, false, false, false, false] rfl rfl (zK HT_.out (by kernel_rfl)) (fun _ _ _ h => h) (Or.inl ⟨by rfl, ?_⟩) ?_ ?_
                            rotate_left
                            · intro w'
                              go_simp
                              with_reducible rfl
                            rotate_left
                            · simp only [Act.put, List.setIfInBounds_toArray, List.set_cons_zero, List.set_cons_succ, i64_w, i32_w]
                              rfl
                            refine pure_ (i := 4) (N := some 54) (v := ?_) (a' := ?_) #[true, false, true, false, true, false, false, false, false, false, false, false, false, false, false, false] rfl rfl (zK HT_.out (by kernel_rfl)) (fun _ _ _ h => h) (Or.inl ⟨by rfl, ?_⟩) ?_ ?_
                            rotate_left
                            · intro w'
                              go_simp
                              with_reducible rfl
                            rotate_left
                            · simp only [Act.put, List.setIfInBounds_toArray, List.set_cons_zero, List.set_cons_succ, i64_w, i32_w]
                              rfl
                            refine pure_ (i := 6) (N := some 56) (v := ?_) (a' := ?_) #[true, false, true, false, true, false, true, false, false, false, false, false, false, false, false, false] rfl rfl (zK HT_.out (by kernel_rfl)) (fun _ _ _ h => h) (Or.inl ⟨by rfl, ?_⟩) ?_ ?_
                            rotate_left
                            · intro w'
                              go_simp
                              with_reducible rfl
                            rotate_left
                            · simp only [Act.put, List.setIfInBounds_toArray, List.set_cons_zero, List.set_cons_succ, i64_w, i32_w]
                              rfl
                            refine pure_ (i := 10) (N := some 60) (v := ?_) (a' := ?_) #[true, false, true, false, true, false, true, false, false, false, true, false, false, false, false, false] rfl rfl (zK HT_.out (by kernel_rfl)) (fun _ _ _ h => h) (Or.inl ⟨by rfl, ?_⟩) ?_ ?_
                            rotate_left
                            · intro w'
                              go_simp
                              with_reducible rfl
                            rotate_left
                            · simp only [Act.put, List.setIfInBounds_toArray, List.set_cons_zero, List.set_cons_succ, i64_w, i32_w]
                              rfl
                            refine pure_ (i := 12) (N := some 62) (v := ?_) (a' := ?_) #[true, false, true, false, true, false, true, false, false, false, true, false, true, false, false, false] rfl rfl (zK HT_.out (by kernel_rfl)) (fun _ _ _ h => h) (Or.inl ⟨by rfl, ?_⟩) ?_ ?_
                            rotate_left
                            · intro w'
                              go_simp
                              with_reducible rfl
                            rotate_left
                            · simp only [Act.put, List.setIfInBounds_toArray, List.set_cons_zero, List.set_cons_succ, i64_w, i32_w]
                              rfl
                            refine take_ (i := 1) (N := some 51) (v := ?_) (a' := ?_) #[true, true, true, false, true, false, true, false, false, false, true, false, true, false, false, false] rfl rfl (zN HT_.out HW_.out (by kernel_rfl)) (fun _ _ _ h => h) (Or.inl ⟨by rfl, ?_⟩) hHeld ?_ ?_
                            rotate_left
                            · rintro w' ⟨s0, s1, s2, s3, s4, s5, s6⟩
                              go_simp
                              with_reducible rfl
                            rotate_left
                            · simp only [Act.put, List.setIfInBounds_toArray, List.set_cons_zero, List.set_cons_succ, i64_w, i32_w]
                              rfl
                            refine take_ (i := 3) (N := some 53) (v := ?_) (a' := ?_) #[true, true, true, true, true, false, true, false, false, false, true, false, true, false, false, false] rfl rfl (zN HT_.out HW_.out (by kernel_rfl)) (fun _ _ _ h => h) (Or.inl ⟨by rfl, ?_⟩) hHeld ?_ ?_
                            rotate_left
                            · rintro w' ⟨s0, s1, s2, s3, s4, s5, s6⟩
                              go_simp
                              with_reducible rfl
                            rotate_left
                            · simp only [Act.put, List.setIfInBounds_toArray, List.set_cons_zero, List.set_cons_succ, i64_w, i32_w]
                              rfl
                            refine take_ (i := 5) (N := some 55) (v := ?_) (a' := ?_) #[true, true, true, true, true, true, true, false, false, false, true, false, true, false, false, false] rfl rfl (zN HT_.out HW_.out (by kernel_rfl)) (fun _ _ _ h => h) (Or.inl ⟨by rfl, ?_⟩) hHeld ?_ ?_
                            rotate_left
                            · rintro w' ⟨s0, s1, s2, s3, s4, s5, s6⟩
                              go_simp
                              with_reducible rfl
                            rotate_left
                            · simp only [Act.put, List.setIfInBounds_toArray, List.set_cons_zero, List.set_cons_succ, i64_w, i32_w]
                              rfl
                            refine take_ (i := 7) (N := some 57) (v := ?_) (a' := ?_) #[true, true, true, true, true, true, true, true, false, false, true, false, true, false, false, false] rfl rfl (zN HT_.out HW_.out (by kernel_rfl)) (fun _ _ _ h => h) (Or.inl ⟨by rfl, ?_⟩) hHeld ?_ ?_
                            rotate_left
                            · rintro w' ⟨s0, s1, s2, s3, s4, s5, s6⟩
                              go_simp
                              with_reducible rfl
                            rotate_left
                            · simp only [Act.put, List.setIfInBounds_toArray, List.set_cons_zero, List.set_cons_succ, i64_w, i32_w]
                              rfl
                            refine pure_ (i := 8) (N := some 58) (v := ?_) (a' := ?_) #[true, true, true, true, true, true, true, true, true, false, true, false, true, false, false, false] rfl rfl (zK HT_.out (by kernel_rfl)) (fun _ _ _ h => h) (Or.inl ⟨by rfl, ?_⟩) ?_ ?_
                            rotate_left
                            · intro w'
                              go_simp
                              with_reducible rfl
                            rotate_left
                            · simp only [Act.put, List.setIfInBounds_toArray, List.set_cons_zero, List.set_cons_succ, i64_w, i32_w]
                              rfl
                            refine take_ (i := 9) (N := some 59) (v := ?_) (a' := ?_) #[true, true, true, true, true, true, true, true, true, true, true, false, true, false, false, false] rfl rfl (zN HT_.out HW_.out (by kernel_rfl)) (fun _ _ _ h => h) (Or.inl ⟨by rfl, ?_⟩) hHeld ?_ ?_
                            rotate_left
                            · rintro w' ⟨s0, s1, s2, s3, s4, s5, s6⟩
                              go_simp
                              with_reducible rfl
                            rotate_left
                            · simp only [Act.put, List.setIfInBounds_toArray, List.set_cons_zero, List.set_cons_succ, i64_w, i32_w]
                              rfl
                            refine take_ (i := 11) (N := some 61) (v := ?_) (a' := ?_) #[true, true, true, true, true, true, true, true, true, true, true, true, true, false, false, false] rfl rfl (zN HT_.out HW_.out (by kernel_rfl)) (fun _ _ _ h => h) (Or.inl ⟨by rfl, ?_⟩) hHeld ?_ ?_
                            rotate_left
                            · rintro w' ⟨s0, s1, s2, s3, s4, s5, s6⟩
                              go_simp
                              with_reducible rfl
                            rotate_left
                            · simp only [Act.put, List.setIfInBounds_toArray, List.set_cons_zero, List.set_cons_succ, i64_w, i32_w]
                              rfl
                            refine one_ (i := 13) (N := some 63) #[true, true, true, true, true, true, true, true, true, true, true, true, true, true, false, false] rfl rfl (zR HT_.out (by kernel_rfl)) (by decide) (fun K hK => ?_)
                            refine goes_ Try.func64 (by kernel_rfl) rfl #[.string (rdOf ByteArray.empty x389000_2 ((rd_T70 l0_1 x27_2).f0)), .string ((rd_T70 l0_1 x27_2).f1), .int .i64 a3] (by rfl) rfl rfl (by (try simp only [List.map_toArray, List.map_cons, List.map_nil]); first | done | rfl | (simp only [List.length_drop, List.length_take]; rfl)) ?_
                            with_reducible refine (impl_torn.calls (rdOf ByteArray.empty x389000_2 ((rd_T70 l0_1 x27_2).f0)) ((rd_T70 l0_1 x27_2).f1) a3 t393 _ A54.out).mono ?_
                            rintro e w64 ⟨rfl, hb⟩
                            have HS6_ := (hb.cell (World.block_lt_of_cell? _ _ (hHeld.2.2.2.2.2.2))).trans (hHeld.2.2.2.2.2.2)
                            refine ⟨_, rfl, ?_⟩
                            have n0_ := Aside0.mk (Kd.qU (rw_ HO_389000.out) hb)
                            have n1_ := Aside0.mk (qJ (g := gb382) (o := .cells #[.slice A0_0 l0_0.length c0_0, .slice (some ad389) l0_1.length c0_1, .int .i64 a0_2, .int .i64 a0_3] 26 (0, 0)) (bw_ BK382.out) hb)
                            have n2_ := Aside0.mk (qJ (g := gb383) (o := .cells #[.slice none 0 0, .slice none 0 0, .int .i64 0, .int .i64 0] 26 (0, 0)) (bw_ BK383.out) hb)
                            have n3_ := Aside0.mk (qJ (g := gb388) (o := .cells #[.slice (some ad392) x389000_2.length co63, .slice none 0 0, .int .i64 (-1), .int .i64 (-1)] 26 (0, 0)) (bw_ BK388.out) hb)
                            have n4_ := Aside0.mk (qJ (g := gb390) (o := .cells #[.int .i64 ((rd_T70 l0_1 x27_2).f0), .string ((rd_T70 l0_1 x27_2).f1)] 70 (0, 0)) (bw_ BK390.out) hb)
                            have n5_ := Aside0.mk (qN (by repeat (first | (with_reducible first | exact HB.out | apply qF | apply qC | apply qE | refine qB ?_ GE382.out | refine qB ?_ GE383.out | refine qB ?_ GE388.out | refine qB ?_ GE390.out) | exact HB.out)) hb)
                            clear HO_389000
                            clear BK382
                            clear BK383
                            clear BK388
                            clear BK390
                            clear HB
                            have HO_389000 := n0_
                            have BK382 := n1_
                            have BK383 := n2_
                            have BK388 := n3_
                            have BK390 := n4_
                            have HB := n5_
                            clear n0_ n1_ n2_ n3_ n4_ n5_
                            (try clear hb)
                            (try clear hb2)
                            (try clear hk)
                            (try clear hi)
                            have p55 : 0 ≤ (((rd_T70 l0_1 x27_2).f0) : Int) := of_decide_eq_true (by first | (with_reducible assumption) | assumption)
                            have q55 : (((rd_T70 l0_1 x27_2).f0) : Int) < ((x389000_2.length : Int) : Int) := of_decide_eq_true (by first | (with_reducible assumption) | assumption)
                            obtain ⟨go55, co55, eo55, gb55, gl55, cl55, HG55⟩ := Kd.R_form HO_389000.out (by omega)
                            (first | cases eo55 | (injection eo55 with ea_ en_ ec_; (first | subst ea_ | (injection ea_ with ea_; subst ea_)); subst ec_; clear en_))
                            have GB55 := Aside0.mk gb55
                            have GG55 := Aside0.mk HG55
                            clear gb55 gl55 HG55
                            (first | simp only [add_plain] at hx392_0 | skip)
                            obtain ⟨hx55_0, hf55_0⟩ := Kd.R_celln (⟨#[]⟩ : ByteArray) HO_389000.out (((rd_T70 l0_1 x27_2).f0) : Int) p55 q55
                            replace p55 := eq_true p55
                            replace q55 := eq_true q55
                            have HP65 := Kd.R_putn HO_389000.out (((rd_T70 l0_1 x27_2).f0) : Int) t393
                            rw [← Ny394.out] at HP65
                            have HQ65 := Aside0.mk HP65
                            clear HP65
                            refine hK.out _ _ ⟨(qA BK388.out 0).trans rfl, (qA BK388.out 1).trans rfl, (qA BK388.out 2).trans rfl, (qA BK388.out 3).trans rfl, (qA BK390.out 0).trans rfl, (qA BK390.out 1).trans rfl, HS6_⟩ (fun hHeld => ?_)
                            clear hK K
                            refine norm_ (a' := ?_) ?_ ?_
                            rotate_left
                            · show Act.put _ (some 63) _ = _
                              simp only [Act.put, List.setIfInBounds_toArray, List.set_cons_zero, List.set_cons_succ, i64_w, i32_w]
                              rfl
                            refine pure_ (i := 14) (N := some 64) (v := ?_) (a' := ?_) #[true, true, true, true, true, true, true, true, true, true, true, true, true, true, true, false] rfl rfl (zK HT_.out (by kernel_rfl)) (fun _ _ _ h => h) (Or.inl ⟨by rfl, ?_⟩) ?_ ?_
                            rotate_left
                            · intro w'
                              go_simp
                              with_reducible rfl
                            rotate_left
                            · simp only [Act.put, List.setIfInBounds_toArray, List.set_cons_zero, List.set_cons_succ, i64_w, i32_w]
                              rfl
                            refine last_ (i := 15) (N := none) #[true, true, true, true, true, true, true, true, true, true, true, true, true, true, true, true] rfl rfl (zR HT_.out (by kernel_rfl)) (by decide) (fun K hK => ?_)
                            refine skip_ (w1 := ?_) (by rfl) rfl ?_ ?_
                            rotate_left
                            · go_simp
                              rfl
                            refine hK.out _ _ ?_
                            clear hK K
                            refine done_ (done_of HT_.out (by kernel_rfl)) ?_
                            try go_wp2
                            go_roundg k2
                            case measure => have := HJ4.out; have := HK2.out; omega
                            case rel => exact ⟨(wrap64 (x27_2 + 1)), (y394), (.slice (some ⟨go55, 0, none⟩) x389000_2.length co63), (by first | rfl | (simp; done) | (simp [*]; done)), H', ⟨by have := HJ4.out; have := HK2.out; omega⟩, ⟨by (with_reducible repeat (first | apply Kd.qX | apply Kd.qV | apply Kd.qW)); exact HQ65.out⟩, ⟨by (with_reducible repeat (first | refine qH ?_ _ | refine qI ?_ | refine qG ?_ _)); refine qR ?_ (by have h_ := Kd.R_ne HO_389000.out BK382.out (by decide); intro e_; exact h_ (by rw [e_]; rfl)) _; (with_reducible repeat (first | refine qH ?_ _ | refine qI ?_ | refine qG ?_ _)); exact BK382.out⟩, ⟨by (with_reducible repeat (first | refine qH ?_ _ | refine qI ?_ | refine qG ?_ _)); refine qR ?_ (by have h_ := Kd.R_ne HO_389000.out BK383.out (by decide); intro e_; exact h_ (by rw [e_]; rfl)) _; (with_reducible repeat (first | refine qH ?_ _ | refine qI ?_ | refine qG ?_ _)); exact BK383.out⟩, ⟨by (with_reducible repeat (first | refine qH ?_ _ | refine qI ?_ | refine qG ?_ _)); refine qR ?_ (by have h_ := Kd.R_ne HO_389000.out BK388.out (by decide); intro e_; exact h_ (by rw [e_]; rfl)) _; (with_reducible repeat (first | refine qH ?_ _ | refine qI ?_ | refine qG ?_ _)); exact BK388.out⟩, ⟨by repeat (first | (with_reducible first | exact HB.out | apply qF | apply qC | apply qE | refine qB ?_ GB55.out | refine qB ?_ GE382.out | refine qB ?_ GE383.out | refine qB ?_ GE388.out | refine qB ?_ GE390.out) | exact HB.out)⟩⟩
                          · rw [if_neg c53] at H
                            exact absurd H (by simp)
                        · rw [if_neg c52] at H
                          exact absurd H (by simp)
                      · rw [if_neg c51] at H
                        have c51b0 : (x27_2 == a2) = false := beq_eq_false_iff_ne.mpr c51
                        have c51b1 : (x27_2 != a2) = true := bne_iff_ne.mpr c51
                        have H' := Aside0.mk H
                        clear H
                        have p389 : 0 ≤ (x27_2 : Int) := of_decide_eq_true (by first | (with_reducible assumption) | assumption)
                        have q389 : x27_2 < (l0_1.length : Int) := of_decide_eq_true (by first | (with_reducible assumption) | assumption)
                        obtain ⟨ad389, e389, hx389_0, hx389_1⟩ := at_T70 HR0_1.out x27_2 p389 q389
                        cases e389
                        replace hx389_0 := (HB.out.cell (World.block_lt_of_cell? w _ hx389_0)).trans hx389_0
                        replace hx389_1 := (HB.out.cell (World.block_lt_of_cell? w _ hx389_1)).trans hx389_1
                        replace p389 := eq_true p389
                        replace q389 := eq_true q389
                        go_wp2_with (first | ((with_reducible refine zB (N := 11) rfl ?_); refine qZ ?hg (N := 11) ?hd (cs := #[.int .i64 0, .string (⟨#[]⟩ : ByteArray)]) (t := 70) ?hr ?_; (case hd => rfl); (case hg => rfl); (case hr => first | (go_simp; done) | (go_simp; rfl)); intro gb390 hg w66 hbox hb; have n0_ := Aside0.mk (Kd.qU (rw_ HO_389000.out) hb); have n1_ := Aside0.mk (qJ (g := gb382) (o := .cells #[.slice A0_0 l0_0.length c0_0, .slice (some ad389) l0_1.length c0_1, .int .i64 a0_2, .int .i64 a0_3] 26 (0, 0)) (bw_ BK382.out) hb); have n2_ := Aside0.mk (qJ (g := gb383) (o := .cells #[.slice none 0 0, .slice none 0 0, .int .i64 0, .int .i64 0] 26 (0, 0)) (bw_ BK383.out) hb); have n3_ := Aside0.mk (qJ (g := gb388) (o := .cells #[u389000, .slice none 0 0, .int .i64 (-1), .int .i64 (-1)] 26 (0, 0)) (bw_ BK388.out) hb); have n4_ := Aside0.mk (qN (by repeat (first | (with_reducible first | exact HB.out | apply qF | apply qC | apply qE | refine qB ?_ GE382.out | refine qB ?_ GE383.out | refine qB ?_ GE388.out) | exact HB.out)) hb); have n5_ := Aside0.mk (hbox); have n6_ := Aside0.mk ((by rw [hg]; exact (qM (by repeat (first | (with_reducible first | exact HB.out | apply qF | apply qC | apply qE | refine qB ?_ GE382.out | refine qB ?_ GE383.out | refine qB ?_ GE388.out) | exact HB.out))) : w.heap.size ≤ gb390)); have n7_ := Aside0.mk ((by rw [hg]; exact (qM (by repeat (first | (with_reducible first | exact HB.out | apply qF | apply qC | apply qE | refine qB ?_ GE382.out | refine qB ?_ GE383.out | refine qB ?_ GE388.out) | exact HB.out))) : w.heap.size ≤ gb390)); have n8_ := Aside0.mk ((by rw [hg]; exact Nat.ne_of_lt (zE (g := gb382) (o := .cells #[.slice A0_0 l0_0.length c0_0, .slice (some ad389) l0_1.length c0_1, .int .i64 a0_2, .int .i64 a0_3] 26 (0, 0)) (bw_ BK382.out)) : gb382 ≠ gb390)); have n9_ := Aside0.mk ((by rw [hg]; exact Nat.ne_of_gt (zE (g := gb382) (o := .cells #[.slice A0_0 l0_0.length c0_0, .slice (some ad389) l0_1.length c0_1, .int .i64 a0_2, .int .i64 a0_3] 26 (0, 0)) (bw_ BK382.out)) : gb390 ≠ gb382)); have n10_ := Aside0.mk ((by rw [hg]; exact Nat.ne_of_lt (zE (g := gb383) (o := .cells #[.slice none 0 0, .slice none 0 0, .int .i64 0, .int .i64 0] 26 (0, 0)) (bw_ BK383.out)) : gb383 ≠ gb390)); have n11_ := Aside0.mk ((by rw [hg]; exact Nat.ne_of_gt (zE (g := gb383) (o := .cells #[.slice none 0 0, .slice none 0 0, .int .i64 0, .int .i64 0] 26 (0, 0)) (bw_ BK383.out)) : gb390 ≠ gb383)); have n12_ := Aside0.mk ((by rw [hg]; exact Nat.ne_of_lt (zE (g := gb388) (o := .cells #[u389000, .slice none 0 0, .int .i64 (-1), .int .i64 (-1)] 26 (0, 0)) (bw_ BK388.out)) : gb388 ≠ gb390)); have n13_ := Aside0.mk ((by rw [hg]; exact Nat.ne_of_gt (zE (g := gb388) (o := .cells #[u389000, .slice none 0 0, .int .i64 (-1), .int .i64 (-1)] 26 (0, 0)) (bw_ BK388.out)) : gb390 ≠ gb388)); clear HO_389000; clear BK382; clear BK383; clear BK388; clear HB; have HO_389000 := n0_; have BK382 := n1_; have BK383 := n2_; have BK388 := n3_; have HB := n4_; have BK390 := n5_; have GW390 := n6_; have GE390 := n7_; have NB382_390 := n8_; have NB390_382 := n9_; have NB383_390 := n10_; have NB390_383 := n11_; have NB388_390 := n12_; have NB390_388 := n13_; clear n0_ n1_ n2_ n3_ n4_ n5_ n6_ n7_ n8_ n9_ n10_ n11_ n12_ n13_; clear hb hbox hg; have hnb67 := NB390_382.out; have hnc67 := NB382_390.out; have hnb68 := NB390_383.out; have hnc68 := NB383_390.out; have hnb69 := NB390_388.out; have hnc69 := NB388_390.out; have hcz70_0 : w66.cell? ⟨gb390, 0, none⟩ = some (.int .i64 0) := (qA BK390.out 0).trans rfl; have hcz70_1 : w66.cell? ⟨gb390, 1, none⟩ = some (.string (⟨#[]⟩ : ByteArray)) := (qA BK390.out 1).trans rfl; have hfz70_0 := qD BK390.out 0; have hfz70_1 := qD BK390.out 1))
                        go_roundg k2
                        case measure => have := HJ4.out; have := HK2.out; omega
                        case rel => exact ⟨(wrap64 (x27_2 + 1)), (x389000_2), (u389000), (by first | rfl | (simp; done) | (simp [*]; done)), H', ⟨by have := HJ4.out; have := HK2.out; omega⟩, ⟨by (with_reducible repeat (first | apply Kd.qX | apply Kd.qV | apply Kd.qW)); exact Kd.qS (Kd.R_far (p := ⟨gb390, 1, none⟩) (Kd.R_far (p := ⟨gb390, 0, none⟩) (Kd.qY HO_389000.out BK390.out (by decide)) (fun _ hk => hk.2) (.int .i64 ((rd_T70 l0_1 x27_2).f0))) (fun _ hk => hk.2) (.string ((rd_T70 l0_1 x27_2).f1))) (fun _ hk => trivial)⟩, ⟨by (with_reducible repeat (first | refine qH ?_ _ | refine qI ?_ | refine qG ?_ _)); refine qR ?_ NB382_390.out _; (with_reducible repeat (first | refine qH ?_ _ | refine qI ?_ | refine qG ?_ _)); refine qR ?_ NB382_390.out _; (with_reducible repeat (first | refine qH ?_ _ | refine qI ?_ | refine qG ?_ _)); exact BK382.out⟩, ⟨by (with_reducible repeat (first | refine qH ?_ _ | refine qI ?_ | refine qG ?_ _)); refine qR ?_ NB383_390.out _; (with_reducible repeat (first | refine qH ?_ _ | refine qI ?_ | refine qG ?_ _)); refine qR ?_ NB383_390.out _; (with_reducible repeat (first | refine qH ?_ _ | refine qI ?_ | refine qG ?_ _)); exact BK383.out⟩, ⟨by (with_reducible repeat (first | refine qH ?_ _ | refine qI ?_ | refine qG ?_ _)); refine qR ?_ NB388_390.out _; (with_reducible repeat (first | refine qH ?_ _ | refine qI ?_ | refine qG ?_ _)); refine qR ?_ NB388_390.out _; (with_reducible repeat (first | refine qH ?_ _ | refine qI ?_ | refine qG ?_ _)); exact BK388.out⟩, ⟨by repeat (first | (with_reducible first | exact HB.out | apply qF | apply qC | apply qE | refine qB ?_ GE382.out | refine qB ?_ GE383.out | refine qB ?_ GE388.out | refine qB ?_ GE390.out) | exact HB.out)⟩⟩
                  · rw [if_neg c33] at H
                    exact absurd H (by simp)
                · rw [if_neg c31] at H
                  exact absurd H (by simp)
              · rw [if_neg c30] at H
                exact absurd H (by simp)
            · rw [if_neg c29] at H
              have c29b0 : decide (x27_2 < (l0_1.length : Int)) = false := decide_eq_false c29
              clear c29
              simp only [Option.some.injEq, Prod.mk.injEq] at H
              obtain ⟨rfl, rfl, rfl, rfl⟩ := H
              have hnb71 := NB388_382.out
              have hnc71 := NB382_388.out
              have hnb72 := NB388_383.out
              have hnc72 := NB383_388.out
              have hcz73_0 : wr.cell? ⟨gb388, 0, none⟩ = some (u389000) := (qA BK388.out 0).trans rfl
              have hcz73_1 : wr.cell? ⟨gb388, 1, none⟩ = some (.slice none 0 0) := (qA BK388.out 1).trans rfl
              have hcz73_2 : wr.cell? ⟨gb388, 2, none⟩ = some (.int .i64 (-1)) := (qA BK388.out 2).trans rfl
              have hcz73_3 : wr.cell? ⟨gb388, 3, none⟩ = some (.int .i64 (-1)) := (qA BK388.out 3).trans rfl
              have hfz73_0 := qD BK388.out 0
              have hfz73_1 := qD BK388.out 1
              have hfz73_2 := qD BK388.out 2
              have hfz73_3 := qD BK388.out 3
              obtain ⟨Ao74, co74, eo74⟩ := Kd.zG HO_389000.out
              subst eo74
              have hnb75 := NB383_382.out
              have hnc75 := NB382_383.out
              have hcz76_0 : wr.cell? ⟨gb383, 0, none⟩ = some (.slice none 0 0) := (qA BK383.out 0).trans rfl
              have hcz76_1 : wr.cell? ⟨gb383, 1, none⟩ = some (.slice none 0 0) := (qA BK383.out 1).trans rfl
              have hcz76_2 : wr.cell? ⟨gb383, 2, none⟩ = some (.int .i64 0) := (qA BK383.out 2).trans rfl
              have hcz76_3 : wr.cell? ⟨gb383, 3, none⟩ = some (.int .i64 0) := (qA BK383.out 3).trans rfl
              have hfz76_0 := qD BK383.out 0
              have hfz76_1 := qD BK383.out 1
              have hfz76_2 := qD BK383.out 2
              have hfz76_3 := qD BK383.out 3
              go_wp2
              refine bodyPost_ret (results_cell_row rfl _ _ gb383 26 #[.slice Ao74 x389000_2.length co74, .slice none 0 0, .int .i64 (-1), .int .i64 (-1)] (0, 0) _ rfl (by (with_reducible repeat (first | refine qH ?_ _ | refine qI ?_ | refine qG ?_ _)); refine qP (cs := #[.slice Ao74 x389000_2.length co74, .slice none 0 0, .int .i64 (-1), .int .i64 0]) ?_ 3 _ rfl; (with_reducible repeat (first | refine qH ?_ _ | refine qI ?_ | refine qG ?_ _)); refine qP (cs := #[.slice Ao74 x389000_2.length co74, .slice none 0 0, .int .i64 0, .int .i64 0]) ?_ 2 _ rfl; (with_reducible repeat (first | refine qH ?_ _ | refine qI ?_ | refine qG ?_ _)); refine qP (cs := #[.slice Ao74 x389000_2.length co74, .slice none 0 0, .int .i64 0, .int .i64 0]) ?_ 1 _ rfl; (with_reducible repeat (first | refine qH ?_ _ | refine qI ?_ | refine qG ?_ _)); refine qP (cs := #[.slice none 0 0, .slice none 0 0, .int .i64 0, .int .i64 0]) ?_ 0 _ rfl; (with_reducible repeat (first | refine qH ?_ _ | refine qI ?_ | refine qG ?_ _)); exact BK383.out) Try.underlying26 rfl (by kernel_rfl)) rfl ?_
              exact ⟨_, _, by first | rfl | (simp [errW_none, errW_some] <;> rfl) | (simp [*, errW_none, errW_some] <;> rfl), by (with_reducible repeat (first | apply Kd.qX | apply Kd.qV | apply Kd.qW)); exact Kd.qS (Kd.R_far (p := ⟨gb383, 3, none⟩) (Kd.R_far (p := ⟨gb383, 2, none⟩) (Kd.R_far (p := ⟨gb383, 1, none⟩) (Kd.R_far (p := ⟨gb383, 0, none⟩) (Kd.qY HO_389000.out BK383.out (by decide)) (fun _ hk => hk.2) (.slice Ao74 x389000_2.length co74)) (fun _ hk => hk.2) (.slice none 0 0)) (fun _ hk => hk.2) (.int .i64 (-1))) (fun _ hk => hk.2) (.int .i64 (-1))) (fun _ hk => trivial), by first | exact Kd.R_nil _ _ _ _ _ | exact Kd.N_nil _ _ _ _ _ | exact Kd.V_nil _ _ _ _ _ | exact Kd.Q_nil _ _ _ _ _ | exact Kd.S_nil _ _ _ _ _, by repeat (first | (with_reducible first | exact HB.out | apply qF | apply qC | apply qE | refine qB ?_ GE382.out | refine qB ?_ GE383.out | refine qB ?_ GE388.out) | exact HB.out)⟩

end Go.Proofs.Ytepihebkdnmppaa.Ak
