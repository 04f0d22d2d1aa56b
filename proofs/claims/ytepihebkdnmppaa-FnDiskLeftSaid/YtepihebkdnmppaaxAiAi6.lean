/- Walks of the seat's functions, written by a program of this session (xprint.py) with the kit's printer: each call comes to just what its Lean function says. -/
import Derived.Test.YtepihebkdnmppaaxAiAi0
import Derived.Test.YtepihebkdnmppaaxAiAi2
import Derived.Test.YtepihebkdnmppaaxAiAi5
namespace Go.Proofs.Ytepihebkdnmppaa.Ai
open Go.RowKit Go.Proofs.YtepihebkdnmppaaV.PrintWords Go.Proofs.YtepihebkdnmppaaV.PrintLast Go.Proofs.YtepihebkdnmppaaV.PrintMore
attribute [local go_sem] max2_int min2_int max_two min_two max_three min_three max_four min_four   -- for this text's walks alone
attribute [local go_sem high] World.zS
set_option linter.unusedVariables false
set_option linter.unusedSimpArgs false

/-! ### spec_DrawDiskSet: function 11 -/
def spec_DrawDiskSet.f (k : Nat) (l0 : List Int) : Option (List ByteArray × (List (S70)) × Int × Int × Int × Int) := (spec_l1Open.f l0).bind fun bt290 => ((spec_l15AnyDisk.f k bt290.1 bt290.2).bind fun bt293 => ((spec_l1Rd_pick.f k bt290.1 bt293.2.2.2.2 6).bind fun bt302 => ((spec_l1Rd_pick.f k bt290.1 bt302.2 6).bind fun bt304 => (some (bt293.1, bt293.2.1, bt293.2.2.1, bt293.2.2.2.1, wrap64 (bt302.1 - 2), wrap64 (bt304.1 - 2))))))
theorem spec_DrawDiskSet.mono : ∀ a0 k, LeO (spec_DrawDiskSet.f k a0) (spec_DrawDiskSet.f (k + 1) a0) := by
  intro a0 k
  unfold spec_DrawDiskSet.f
  repeat' first
      | (with_reducible exact spec_l15AnyDisk.mono _ _ _)
      | (with_reducible exact spec_l1Rd_pick.mono _ _ _ _)
      | (with_reducible exact LeO.refl _)
      | (with_reducible exact LeO.none _)
      | (with_reducible refine LeO.ite ?_ ?_)
      | (with_reducible refine LeO.bind ?_ (fun _ => ?_))
      | exact spec_l15AnyDisk.mono _ _ _
      | exact spec_l1Rd_pick.mono _ _ _ _
      | exact LeO.none _
      | refine LeO.ite ?_ ?_
      | refine LeO.bind ?_ (fun _ => ?_)
set_option maxHeartbeats 8000000 in
set_option maxRecDepth 100000 in
theorem spec_DrawDiskSet.calls (k : Nat) (A0 : Option Addr) (c0 : Nat) (l0 : List Int) (r1 : List ByteArray) (r2 : List (S70)) (r3 : Int) (r4 : Int) (r5 : Int) (r6 : Int) (w : World) (hr0 : Kd.C (Kd.int .u8) w A0 l0.length l0) (hc0 : l0.length ≤ c0) (h : spec_DrawDiskSet.f k l0 = some (r1, r2, r3, r4, r5, r6)) :
    Calls Try.prog 11 #[.slice A0 l0.length c0] w fun e w' => ∃ v0_ v1_ : Value, e = .returned (.tuple #[.agg #[v0_, v1_, .int .i64 r3, .int .i64 r4], .int .i64 r5, .int .i64 r6]) ∧ Kd.Q Kd.string 9 w' w.heap.size (fun _ => True) v0_ r1 ∧ Kd.R k70 70 w' w.heap.size (fun _ => True) v1_ r2 ∧ Below w.heap.size w w' := by
  have hu26 := Try.underlying26
  have HR0 := Aside0.mk hr0
  have HC0 := Aside0.mk hc0
  clear hr0 hc0
  have HB := Aside0.mk (Below.refl w.heap.size w)
  have H : ((spec_l1Open.f l0).bind fun bt290 => ((spec_l15AnyDisk.f k bt290.1 bt290.2).bind fun bt293 => ((spec_l1Rd_pick.f k bt290.1 bt293.2.2.2.2 6).bind fun bt302 => ((spec_l1Rd_pick.f k bt290.1 bt302.2 6).bind fun bt304 => (some (bt293.1, bt293.2.1, bt293.2.2.1, bt293.2.2.2.1, wrap64 (bt302.1 - 2), wrap64 (bt304.1 - 2))))))) = some (r1, r2, r3, r4, r5, r6) := h
  clear h
  replace H := Option.bind_eq_some_iff.mp H
  obtain ⟨⟨t290, t291⟩, A20, H⟩ := H
  replace H : ((spec_l15AnyDisk.f k t290 t291).bind fun bt293 => ((spec_l1Rd_pick.f k t290 bt293.2.2.2.2 6).bind fun bt302 => ((spec_l1Rd_pick.f k t290 bt302.2 6).bind fun bt304 => (some (bt293.1, bt293.2.1, bt293.2.2.1, bt293.2.2.2.1, wrap64 (bt302.1 - 2), wrap64 (bt304.1 - 2)))))) = some (r1, r2, r3, r4, r5, r6) := H
  have A2 := Aside0.mk A20
  clear A20
  replace H := Option.bind_eq_some_iff.mp H
  obtain ⟨⟨t293, t296, t299, t300, t301⟩, A30, H⟩ := H
  replace H : ((spec_l1Rd_pick.f k t290 t301 6).bind fun bt302 => ((spec_l1Rd_pick.f k t290 bt302.2 6).bind fun bt304 => (some (t293, t296, t299, t300, wrap64 (bt302.1 - 2), wrap64 (bt304.1 - 2))))) = some (r1, r2, r3, r4, r5, r6) := H
  have A3 := Aside0.mk A30
  clear A30
  replace H := Option.bind_eq_some_iff.mp H
  obtain ⟨⟨t302, t303⟩, A40, H⟩ := H
  replace H : ((spec_l1Rd_pick.f k t290 t303 6).bind fun bt304 => (some (t293, t296, t299, t300, wrap64 (t302 - 2), wrap64 (bt304.1 - 2)))) = some (r1, r2, r3, r4, r5, r6) := H
  have A4 := Aside0.mk A40
  clear A40
  replace H := Option.bind_eq_some_iff.mp H
  obtain ⟨⟨t304, t305⟩, A50, H⟩ := H
  replace H : (some (t293, t296, t299, t300, wrap64 (t302 - 2), wrap64 (t304 - 2))) = some (r1, r2, r3, r4, r5, r6) := H
  have A5 := Aside0.mk A50
  clear A50
  simp only [Option.some.injEq, Prod.mk.injEq] at H
  obtain ⟨rfl, rfl, rfl, rfl, rfl, rfl⟩ := H
  go_enter Try.func11, Try.ntmps11
  go_wp2_with (first | ((with_reducible refine zA (N := 2) rfl ?_); refine qU ?hg (N := 2) ?hd (cs := #[.slice none 0 0, .slice none 0 0, .int .i64 0, .int .i64 0]) (t := 26) ?hr ?_; (case hd => rfl); (case hg => rfl); (case hr => first | (go_simp; done) | (go_simp; rfl)); intro gb289 hg w6 hbox hb; have n0_ := Aside0.mk (qL (by repeat (first | (with_reducible first | exact HB.out | apply qF | apply qB | apply qE) | exact HB.out)) hb); have n1_ := Aside0.mk (hbox); have n2_ := Aside0.mk ((by rw [hg]; exact (qK (by repeat (first | (with_reducible first | exact HB.out | apply qF | apply qB | apply qE) | exact HB.out))) : w.heap.size ≤ gb289)); have n3_ := Aside0.mk ((by rw [hg]; exact (qK (by repeat (first | (with_reducible first | exact HB.out | apply qF | apply qB | apply qE) | exact HB.out))) : w.heap.size ≤ gb289)); clear HB; have HB := n0_; have BK289 := n1_; have GW289 := n2_; have GE289 := n3_; clear n0_ n1_ n2_ n3_; clear hb hbox hg) | ((with_reducible refine qV (f := 32) rfl ?_); refine zL (some 7) rfl rfl Try.func32 (by kernel_rfl) rfl #[.slice A0 l0.length c0] rfl (by (try simp only [List.map_toArray, List.map_cons, List.map_nil]); first | done | rfl | (simp only [List.length_drop, List.length_take]; rfl)) ?_; (with_reducible refine (spec_l1Open.calls _ _ l0 t290 t291 w _ ?side1 ?side2 ?side3 A2.out).mono ?_); (case side1 => repeat (first | (with_reducible first | exact HB.out | apply qF | apply qB | apply qE | refine qD ?_ GE289.out) | exact HB.out)); (case side2 => exact HR0.out); (case side3 => exact HC0.out); rintro e w7 ⟨g292, rfl, hi, hb, hb2⟩; refine ⟨_, rfl, ?_⟩; have n0_ := Aside0.mk (qJ (g := gb289) (o := .cells #[.slice none 0 0, .slice none 0 0, .int .i64 0, .int .i64 0] 26 (0, 0)) (bw_ BK289.out) hb2); have n1_ := Aside0.mk (hb); have n2_ := Aside0.mk (hi); have n3_ := Aside0.mk (IsS83.ne_blk hi (qJ (g := gb289) (o := .cells #[.slice none 0 0, .slice none 0 0, .int .i64 0, .int .i64 0] 26 (0, 0)) (bw_ BK289.out) hb2) (by decide)); have n4_ := Aside0.mk (Ne.symm (IsS83.ne_blk hi (qJ (g := gb289) (o := .cells #[.slice none 0 0, .slice none 0 0, .int .i64 0, .int .i64 0] 26 (0, 0)) (bw_ BK289.out) hb2) (by decide))); clear BK289; clear HB; have BK289 := n0_; have HB := n1_; have HI292 := n2_; have NB292_289 := n3_; have NB289_292 := n4_; clear n0_ n1_ n2_ n3_ n4_; (try clear hb); (try clear hb2); (try clear hk); (try clear hi)) | ((with_reducible refine qV (f := 33) rfl ?_); refine zL (some 9) rfl rfl Try.func33 (by kernel_rfl) rfl #[.pointer (some ⟨g292, 0, none⟩)] rfl (by (try simp only [List.map_toArray, List.map_cons, List.map_nil]); first | done | rfl | (simp only [List.length_drop, List.length_take]; rfl)) ?_; (with_reducible refine (spec_l15AnyDisk.calls k g292 t290 t291 t293 t296 t299 t300 t301 w _ ?side1 ?side2 A3.out).mono ?_); (case side1 => repeat (first | (with_reducible first | exact HI292.out | apply IsS83.alloc | apply IsS83.drewN | apply IsS83.drew | apply IsS83.set_1 | refine IsS83.far ?_ NB292_289.out _) | exact HI292.out)); (case side2 => repeat (first | (with_reducible first | exact HB.out | apply qF | apply qB | apply qE | refine qD ?_ (IsS83.ge HI292.out) | refine qD ?_ GE289.out) | exact HB.out)); rintro e w8 ⟨v294, v297, rfl, ho0, ho1, hi, hb, hk⟩; refine ⟨_, rfl, ?_⟩; have n0_ := Aside0.mk (KeepBut.blk hk (g' := gb289) (o := .cells #[.slice none 0 0, .slice none 0 0, .int .i64 0, .int .i64 0] 26 (0, 0)) (bw_ BK289.out) NB289_292.out (by simp)); have n1_ := Aside0.mk (Kd.Q_lower ho0 (qK (by repeat (first | (with_reducible first | exact HB.out | apply qF | apply qB | apply qE | refine qD ?_ (IsS83.ge HI292.out) | refine qD ?_ GE289.out) | exact HB.out)))); have n2_ := Aside0.mk (Kd.zJ ho1 (qK (by repeat (first | (with_reducible first | exact HB.out | apply qF | apply qB | apply qE | refine qD ?_ (IsS83.ge HI292.out) | refine qD ?_ GE289.out) | exact HB.out)))); have n3_ := Aside0.mk (hb); have n4_ := Aside0.mk (hi); clear BK289; clear HB; clear HI292; have BK289 := n0_; have HO295 := n1_; have HO298 := n2_; have HB := n3_; have HI292 := n4_; clear n0_ n1_ n2_ n3_ n4_; (try clear hb); (try clear hb2); (try clear hk); (try clear hi); (try clear ho0); (try clear ho1)) | ((with_reducible refine qV (f := 34) rfl ?_); refine zL (some 11) rfl rfl Try.func34 (by kernel_rfl) rfl #[.pointer (some ⟨g292, 0, none⟩), .int .i64 6] rfl (by (try simp only [List.map_toArray, List.map_cons, List.map_nil]); first | done | rfl | (simp only [List.length_drop, List.length_take]; rfl)) ?_; (with_reducible refine (spec_l1Rd_pick.calls k g292 t290 t301 6 t302 t303 w _ ?side1 ?side2 A4.out).mono ?_); (case side1 => repeat (first | (with_reducible first | exact HI292.out | apply IsS83.alloc | apply IsS83.drewN | apply IsS83.drew | apply IsS83.set_1 | refine IsS83.far ?_ NB292_289.out _) | exact HI292.out)); (case side2 => repeat (first | (with_reducible first | exact HB.out | apply qF | apply qB | apply qE | refine qD ?_ (IsS83.ge HI292.out) | refine qD ?_ GE289.out) | exact HB.out)); rintro e w9 ⟨rfl, hi, hb, hk⟩; refine ⟨_, rfl, ?_⟩; have n0_ := Aside0.mk (KeepBut.blk hk (g' := gb289) (o := .cells #[.slice none 0 0, .slice none 0 0, .int .i64 0, .int .i64 0] 26 (0, 0)) (bw_ BK289.out) NB289_292.out (by simp)); have n1_ := Aside0.mk (Kd.zX (Kd.Q_keep (IsS83.apartQ (show IsS83 w _ g292 t290 t301 from by repeat (first | (with_reducible first | exact HI292.out | apply IsS83.alloc | apply IsS83.drewN | apply IsS83.drew | apply IsS83.set_1 | refine IsS83.far ?_ NB292_289.out _) | exact HI292.out)) (qw_ HO295.out) (by decide)) hk (fun _ h => h.2)) (fun _ h => h.1)); have n2_ := Aside0.mk (Kd.qS (Kd.zM (IsS83.apart (show IsS83 w _ g292 t290 t301 from by repeat (first | (with_reducible first | exact HI292.out | apply IsS83.alloc | apply IsS83.drewN | apply IsS83.drew | apply IsS83.set_1 | refine IsS83.far ?_ NB292_289.out _) | exact HI292.out)) (rw_ HO298.out) (by decide)) hk (fun _ h => h.2)) (fun _ h => h.1)); have n3_ := Aside0.mk (hb); have n4_ := Aside0.mk (hi); clear BK289; clear HO295; clear HO298; clear HB; clear HI292; have BK289 := n0_; have HO295 := n1_; have HO298 := n2_; have HB := n3_; have HI292 := n4_; clear n0_ n1_ n2_ n3_ n4_; (try clear hb); (try clear hb2); (try clear hk); (try clear hi)) | ((with_reducible refine qV (f := 34) rfl ?_); refine zL (some 14) rfl rfl Try.func34 (by kernel_rfl) rfl #[.pointer (some ⟨g292, 0, none⟩), .int .i64 6] rfl (by (try simp only [List.map_toArray, List.map_cons, List.map_nil]); first | done | rfl | (simp only [List.length_drop, List.length_take]; rfl)) ?_; (with_reducible refine (spec_l1Rd_pick.calls k g292 t290 t303 6 t304 t305 w _ ?side1 ?side2 A5.out).mono ?_); (case side1 => repeat (first | (with_reducible first | exact HI292.out | apply IsS83.alloc | apply IsS83.drewN | apply IsS83.drew | apply IsS83.set_1 | refine IsS83.far ?_ NB292_289.out _) | exact HI292.out)); (case side2 => repeat (first | (with_reducible first | exact HB.out | apply qF | apply qB | apply qE | refine qD ?_ (IsS83.ge HI292.out) | refine qD ?_ GE289.out) | exact HB.out)); rintro e w10 ⟨rfl, hi, hb, hk⟩; refine ⟨_, rfl, ?_⟩; have n0_ := Aside0.mk (KeepBut.blk hk (g' := gb289) (o := .cells #[.slice none 0 0, .slice none 0 0, .int .i64 0, .int .i64 0] 26 (0, 0)) (bw_ BK289.out) NB289_292.out (by simp)); have n1_ := Aside0.mk (Kd.zX (Kd.Q_keep (IsS83.apartQ (show IsS83 w _ g292 t290 t303 from by repeat (first | (with_reducible first | exact HI292.out | apply IsS83.alloc | apply IsS83.drewN | apply IsS83.drew | apply IsS83.set_1 | refine IsS83.far ?_ NB292_289.out _) | exact HI292.out)) (qw_ HO295.out) (by decide)) hk (fun _ h => h.2)) (fun _ h => h.1)); have n2_ := Aside0.mk (Kd.qS (Kd.zM (IsS83.apart (show IsS83 w _ g292 t290 t303 from by repeat (first | (with_reducible first | exact HI292.out | apply IsS83.alloc | apply IsS83.drewN | apply IsS83.drew | apply IsS83.set_1 | refine IsS83.far ?_ NB292_289.out _) | exact HI292.out)) (rw_ HO298.out) (by decide)) hk (fun _ h => h.2)) (fun _ h => h.1)); have n3_ := Aside0.mk (hb); have n4_ := Aside0.mk (hi); clear BK289; clear HO295; clear HO298; clear HB; clear HI292; have BK289 := n0_; have HO295 := n1_; have HO298 := n2_; have HB := n3_; have HI292 := n4_; clear n0_ n1_ n2_ n3_ n4_; (try clear hb); (try clear hb2); (try clear hk); (try clear hi); obtain ⟨Ao11, co11, eo11, _⟩ := Kd.Q_slice HO295.out; subst eo11; have hnb12 := NB289_292.out; have hnc12 := NB292_289.out; have hcz13_0 : w10.cell? ⟨gb289, 0, none⟩ = some (.slice none 0 0) := (qA BK289.out 0).trans rfl; have hcz13_1 : w10.cell? ⟨gb289, 1, none⟩ = some (.slice none 0 0) := (qA BK289.out 1).trans rfl; have hcz13_2 : w10.cell? ⟨gb289, 2, none⟩ = some (.int .i64 0) := (qA BK289.out 2).trans rfl; have hcz13_3 : w10.cell? ⟨gb289, 3, none⟩ = some (.int .i64 0) := (qA BK289.out 3).trans rfl; have hfz13_0 := qC BK289.out 0; have hfz13_1 := qC BK289.out 1; have hfz13_2 := qC BK289.out 2; have hfz13_3 := qC BK289.out 3; obtain ⟨Ao14, co14, eo14⟩ := Kd.zE HO298.out; subst eo14))
  refine bodyPost_ret (results_ctt rfl _ _ gb289 26 #[.slice Ao11 t293.length co11, .slice Ao14 t296.length co14, .int .i64 t299, .int .i64 t300] (0, 0) _ rfl (by (with_reducible repeat (first | refine qH ?_ _ | refine qI ?_ | refine qG ?_ _)); refine qO (cs := #[.slice Ao11 t293.length co11, .slice Ao14 t296.length co14, .int .i64 t299, .int .i64 0]) ?_ 3 _ rfl; (with_reducible repeat (first | refine qH ?_ _ | refine qI ?_ | refine qG ?_ _)); refine qO (cs := #[.slice Ao11 t293.length co11, .slice Ao14 t296.length co14, .int .i64 0, .int .i64 0]) ?_ 2 _ rfl; (with_reducible repeat (first | refine qH ?_ _ | refine qI ?_ | refine qG ?_ _)); refine qO (cs := #[.slice Ao11 t293.length co11, .slice none 0 0, .int .i64 0, .int .i64 0]) ?_ 1 _ rfl; (with_reducible repeat (first | refine qH ?_ _ | refine qI ?_ | refine qG ?_ _)); refine qO (cs := #[.slice none 0 0, .slice none 0 0, .int .i64 0, .int .i64 0]) ?_ 0 _ rfl; (with_reducible repeat (first | refine qH ?_ _ | refine qI ?_ | refine qG ?_ _)); exact BK289.out) Try.underlying26 rfl (by kernel_rfl)) rfl ?_
  exact ⟨_, _, by first | rfl | (simp [errW_none, errW_some] <;> rfl) | (simp [*, errW_none, errW_some] <;> rfl), by (with_reducible repeat (first | apply Kd.xA | apply Kd.xB | apply Kd.zW)); exact Kd.zX (Kd.Q_far (p := ⟨gb289, 3, none⟩) (Kd.Q_far (p := ⟨gb289, 2, none⟩) (Kd.Q_far (p := ⟨gb289, 1, none⟩) (Kd.Q_far (p := ⟨gb289, 0, none⟩) (Kd.xC HO295.out BK289.out (by decide)) (fun _ hk => hk.2) (.slice Ao11 t293.length co11)) (fun _ hk => hk.2) (.slice Ao14 t296.length co14)) (fun _ hk => hk.2) (.int .i64 t299)) (fun _ hk => hk.2) (.int .i64 t300)) (fun _ hk => trivial), by (with_reducible repeat (first | apply Kd.zI | apply Kd.zH | apply Kd.zD)); exact Kd.qS (Kd.R_far (p := ⟨gb289, 3, none⟩) (Kd.R_far (p := ⟨gb289, 2, none⟩) (Kd.R_far (p := ⟨gb289, 1, none⟩) (Kd.R_far (p := ⟨gb289, 0, none⟩) (Kd.qW HO298.out BK289.out (by decide)) (fun _ hk => hk.2) (.slice Ao11 t293.length co11)) (fun _ hk => hk.2) (.slice Ao14 t296.length co14)) (fun _ hk => hk.2) (.int .i64 t299)) (fun _ hk => hk.2) (.int .i64 t300)) (fun _ hk => trivial), by repeat (first | (with_reducible first | exact HB.out | apply qF | apply qB | apply qE | refine qD ?_ (IsS83.ge HI292.out) | refine qD ?_ GE289.out) | exact HB.out)⟩

/-! ### impl_DiskOk_1: function 48 -/
def impl_DiskOk_1.f (a0 : ByteArray) : Option (Bool) := some (decide ((a0.size : Int) > 1200))
set_option maxHeartbeats 8000000 in
set_option maxRecDepth 100000 in
theorem impl_DiskOk_1.calls (a0 : ByteArray) (r : Bool) (w : World) (h : impl_DiskOk_1.f a0 = some r) :
    Calls Try.prog 48 #[.string a0] w fun e w' => e = .returned (.bool r) ∧ Drawn0 w w' := by
  have H : (some (decide ((a0.size : Int) > 1200))) = some r := h
  clear h
  obtain rfl := Option.some.inj H
  go_enter Try.func48, Try.ntmps48
  go_wp2
  go_ret
  exact ⟨by first | rfl | (simp; done) | (simp [*]; done), by repeat (first | exact Drawn0.refl _ | apply Drawn0.step)⟩

/-! ### impl_in: function 70 -/
def impl_in.f (a0 : Int) (a1 : Int) (a2 : Int) : Option (Bool) := if a0 ≥ a1 then (some (decide (a0 ≤ a2))) else (some false)
set_option maxHeartbeats 8000000 in
set_option maxRecDepth 100000 in
theorem impl_in.calls (a0 : Int) (a1 : Int) (a2 : Int) (r : Bool) (w : World) (h : impl_in.f a0 a1 a2 = some r) :
    Calls Try.prog 70 #[.int .i64 a0, .int .i64 a1, .int .i64 a2] w fun e w' => e = .returned (.bool r) ∧ Drawn0 w w' := by
  have H : (if a0 ≥ a1 then (some (decide (a0 ≤ a2))) else (some false)) = some r := h
  clear h
  by_cases c4 : a0 ≥ a1
  · rw [if_pos c4] at H
    have c4b0 : decide (a1 ≤ a0) = true := decide_eq_true c4
    clear c4
    obtain rfl := Option.some.inj H
    go_enter Try.func70, Try.ntmps70
    go_wp2
    go_ret
    exact ⟨by first | rfl | (simp; done) | (simp [*]; done), by repeat (first | exact Drawn0.refl _ | apply Drawn0.step)⟩
  · rw [if_neg c4] at H
    have c4b0 : decide (a1 ≤ a0) = false := decide_eq_false c4
    clear c4
    obtain rfl := Option.some.inj H
    go_enter Try.func70, Try.ntmps70
    go_wp2
    go_ret
    exact ⟨by first | rfl | (simp; done) | (simp [*]; done), by repeat (first | exact Drawn0.refl _ | apply Drawn0.step)⟩

/-! ### impl_isCell: function 45 -/
def impl_isCell.f (a0 : Int) : Option (Bool) := (impl_in.f a0 0 41).bind fun t306 => (some t306)
set_option maxHeartbeats 8000000 in
set_option maxRecDepth 100000 in
theorem impl_isCell.calls (a0 : Int) (r : Bool) (w : World) (h : impl_isCell.f a0 = some r) :
    Calls Try.prog 45 #[.int .i64 a0] w fun e w' => e = .returned (.bool r) ∧ Drawn0 w w' := by
  have H : ((impl_in.f a0 0 41).bind fun t306 => (some t306)) = some r := h
  clear h
  replace H := Option.bind_eq_some_iff.mp H
  obtain ⟨t306, A20, H⟩ := H
  replace H : (some t306) = some r := H
  have A2 := Aside0.mk A20
  clear A20
  obtain rfl := Option.some.inj H
  go_enter Try.func45, Try.ntmps45
  go_wp2_with (first | ((with_reducible refine qV (f := 70) rfl ?_); refine zL (some 4) rfl rfl Try.func70 (by kernel_rfl) rfl #[.int .i64 a0, .int .i64 0, .int .i64 41] rfl (by (try simp only [List.map_toArray, List.map_cons, List.map_nil]); first | done | rfl | (simp only [List.length_drop, List.length_take]; rfl)) ?_; (with_reducible refine (impl_in.calls a0 0 41 t306 _ A2.out).mono ?_); rintro e w' ⟨rfl, ⟨nd, rfl⟩⟩; refine ⟨_, rfl, ?_⟩))
  go_ret
  exact ⟨by first | rfl | (simp; done) | (simp [*]; done), by repeat (first | exact Drawn0.refl _ | apply Drawn0.step)⟩

/-! ### impl_DiskOk_2: function 50 -/
def impl_DiskOk_2.f (a0_0 : Int) (a0_1 : ByteArray) : Option (Bool) := (impl_isCell.f a0_0).bind fun t308 => (if t308 = true then (some (decide ((a0_1.size : Int) > 1200))) else (some true))
set_option maxHeartbeats 8000000 in
set_option maxRecDepth 100000 in
theorem impl_DiskOk_2.calls (a0_0 : Int) (a0_1 : ByteArray) (r : Bool) (w : World) (h : impl_DiskOk_2.f a0_0 a0_1 = some r) :
    Calls Try.prog 50 #[.agg #[.int .i64 a0_0, .string a0_1]] w fun e w' => e = .returned (.bool r) ∧ Below w.heap.size w w' := by
  have hu70 := Try.underlying70
  have HB := Aside0.mk (Below.refl w.heap.size w)
  have H : ((impl_isCell.f a0_0).bind fun t308 => (if t308 = true then (some (decide ((a0_1.size : Int) > 1200))) else (some true))) = some r := h
  clear h
  replace H := Option.bind_eq_some_iff.mp H
  obtain ⟨t308, A20, H⟩ := H
  replace H : (if t308 = true then (some (decide ((a0_1.size : Int) > 1200))) else (some true)) = some r := H
  have A2 := Aside0.mk A20
  clear A20
  by_cases c3 : t308 = true
  · subst c3
    have H1 : (some (decide ((a0_1.size : Int) > 1200))) = some r := by rw [if_pos rfl] at H; exact H
    clear H
    have H := H1
    clear H1
    obtain rfl := Option.some.inj H
    go_enter Try.func50, Try.ntmps50
    go_wp2_with (first | ((with_reducible refine zA (N := 1) rfl ?_); refine qU ?hg (N := 1) ?hd (cs := #[.int .i64 a0_0, .string a0_1]) (t := 70) ?hr ?_; (case hd => rfl); (case hg => rfl); (case hr => first | (go_simp; done) | (go_simp; rfl)); intro gb307 hg w4 hbox hb; have n0_ := Aside0.mk (qL (by repeat (first | (with_reducible first | exact HB.out | apply qF | apply qB | apply qE) | exact HB.out)) hb); have n1_ := Aside0.mk (hbox); have n2_ := Aside0.mk ((by rw [hg]; exact (qK (by repeat (first | (with_reducible first | exact HB.out | apply qF | apply qB | apply qE) | exact HB.out))) : w.heap.size ≤ gb307)); have n3_ := Aside0.mk ((by rw [hg]; exact (qK (by repeat (first | (with_reducible first | exact HB.out | apply qF | apply qB | apply qE) | exact HB.out))) : w.heap.size ≤ gb307)); clear HB; have HB := n0_; have BK307 := n1_; have GW307 := n2_; have GE307 := n3_; clear n0_ n1_ n2_ n3_; clear hb hbox hg; have hcz5_0 : w4.cell? ⟨gb307, 0, none⟩ = some (.int .i64 a0_0) := (qA BK307.out 0).trans rfl; have hcz5_1 : w4.cell? ⟨gb307, 1, none⟩ = some (.string a0_1) := (qA BK307.out 1).trans rfl; have hfz5_0 := qC BK307.out 0; have hfz5_1 := qC BK307.out 1) | ((with_reducible refine qV (f := 45) rfl ?_); refine zL (some 5) rfl rfl Try.func45 (by kernel_rfl) rfl #[.int .i64 a0_0] rfl (by (try simp only [List.map_toArray, List.map_cons, List.map_nil]); first | done | rfl | (simp only [List.length_drop, List.length_take]; rfl)) ?_; (with_reducible refine (impl_isCell.calls a0_0 true _ A2.out).mono ?_); rintro e w' ⟨rfl, ⟨nd, rfl⟩⟩; refine ⟨_, rfl, ?_⟩))
    go_ret
    exact ⟨by first | rfl | (simp [errW_none, errW_some] <;> rfl) | (simp [*, errW_none, errW_some] <;> rfl), by repeat (first | (with_reducible first | exact HB.out | apply qF | apply qB | apply qE | refine qD ?_ GE307.out) | exact HB.out)⟩
  · replace c3 := Bool.eq_false_iff.mpr c3
    subst c3
    have H1 : (some true) = some r := by rw [if_neg (show ¬ (false = true) by decide)] at H; exact H
    clear H
    have H := H1
    clear H1
    obtain rfl := Option.some.inj H
    go_enter Try.func50, Try.ntmps50
    go_wp2_with (first | ((with_reducible refine zA (N := 1) rfl ?_); refine qU ?hg (N := 1) ?hd (cs := #[.int .i64 a0_0, .string a0_1]) (t := 70) ?hr ?_; (case hd => rfl); (case hg => rfl); (case hr => first | (go_simp; done) | (go_simp; rfl)); intro gb307 hg w6 hbox hb; have n0_ := Aside0.mk (qL (by repeat (first | (with_reducible first | exact HB.out | apply qF | apply qB | apply qE) | exact HB.out)) hb); have n1_ := Aside0.mk (hbox); have n2_ := Aside0.mk ((by rw [hg]; exact (qK (by repeat (first | (with_reducible first | exact HB.out | apply qF | apply qB | apply qE) | exact HB.out))) : w.heap.size ≤ gb307)); have n3_ := Aside0.mk ((by rw [hg]; exact (qK (by repeat (first | (with_reducible first | exact HB.out | apply qF | apply qB | apply qE) | exact HB.out))) : w.heap.size ≤ gb307)); clear HB; have HB := n0_; have BK307 := n1_; have GW307 := n2_; have GE307 := n3_; clear n0_ n1_ n2_ n3_; clear hb hbox hg; have hcz7_0 : w6.cell? ⟨gb307, 0, none⟩ = some (.int .i64 a0_0) := (qA BK307.out 0).trans rfl; have hcz7_1 : w6.cell? ⟨gb307, 1, none⟩ = some (.string a0_1) := (qA BK307.out 1).trans rfl; have hfz7_0 := qC BK307.out 0; have hfz7_1 := qC BK307.out 1) | ((with_reducible refine qV (f := 45) rfl ?_); refine zL (some 5) rfl rfl Try.func45 (by kernel_rfl) rfl #[.int .i64 a0_0] rfl (by (try simp only [List.map_toArray, List.map_cons, List.map_nil]); first | done | rfl | (simp only [List.length_drop, List.length_take]; rfl)) ?_; (with_reducible refine (impl_isCell.calls a0_0 false _ A2.out).mono ?_); rintro e w' ⟨rfl, ⟨nd, rfl⟩⟩; refine ⟨_, rfl, ?_⟩))
    go_ret
    exact ⟨by first | rfl | (simp [errW_none, errW_some] <;> rfl) | (simp [*, errW_none, errW_some] <;> rfl), by repeat (first | (with_reducible first | exact HB.out | apply qF | apply qB | apply qE | refine qD ?_ GE307.out) | exact HB.out)⟩

/-! ### impl_DiskOk: function 22 (a contract of this session's) -/
def impl_DiskOk.C.p (x : ByteArray) : Bool := decide ((x.size : Int) > 1200)
def impl_DiskOk.C.any (l : List ByteArray) : Bool := l.any impl_DiskOk.C.p
theorem impl_DiskOk.C.p_ok (x : ByteArray) : impl_DiskOk_1.f x = some (impl_DiskOk.C.p x) := by
  rfl
set_option maxHeartbeats 4000000 in
set_option maxRecDepth 100000 in
theorem impl_DiskOk.C.Index (A0 : Option Addr) (c0 : Nat) (l0 : List ByteArray) (w : World) (hr0 : Kd.C Kd.string w A0 l0.length l0) (hc0 : l0.length ≤ c0) :
    Calls Try.prog 72 #[.slice A0 l0.length c0, .func (.func 48) #[] #[]] w fun e w' => e = .returned (.int .i64 (firstAt impl_DiskOk.C.p l0 0)) ∧ Below w.heap.size w w' := by
  have HR := Aside0.mk hr0
  have HM : Aside0 (l0.length ≤ 9223372036854775807) := ⟨hr0.2.1⟩
  clear hr0 hc0
  go_enter Try.func72, Try.ntmps72
  go_wp2
  go_loopg [5, 8] l0.length (fun kq v5 v8 w' => ∃ (i : Nat), v8 = .int .i64 (i : Int) ∧ Aside0 (i + kq = l0.length) ∧ Aside0 (firstAt impl_DiskOk.C.p l0 0 = firstAt impl_DiskOk.C.p (l0.drop i) i) ∧ Aside0 (Below w.heap.size w w'))
  case atStart => exact ⟨0, rfl, ⟨by omega⟩, ⟨by simp⟩, ⟨Below.refl _ _⟩⟩
  case round =>
    obtain ⟨i, rfl, HI, HF, HB⟩ := hrel
    cases gk with
    | zero =>
      have hi := HI.out
      have c1 : decide ((i : Int) < (l0.length : Int)) = false := by simp; omega
      go_wp2
      go_ret
      have := HF.out
      rw [List.drop_of_length_le (by omega)] at this
      exact ⟨by rw [this]; rfl, HB.out⟩
    | succ k1 =>
      have hi := HI.out
      have hlt : i < l0.length := by omega
      obtain ⟨ad, e1, hx0⟩ := Kd.at_string (Kd.zK HR.out HB.out) (i : Int) (by omega) (by omega)
      cases e1
      rw [Int.toNat_natCast] at hx0
      have HS := Aside0.mk (firstAt_drop impl_DiskOk.C.p ByteArray.empty l0 i hlt)
      have c1 : decide ((i : Int) < (l0.length : Int)) = true := by simp; omega
      have c2 : (0 ≤ (i : Int)) = True := by simp
      have c3 : ((i : Int) < (l0.length : Int)) = True := by simp; omega
      have hm := HM.out
      have hlt' : i < l0.length := hlt
      clear hi hlt
      go_wp2_with (go_at_call 48; refine (impl_DiskOk_1.calls _ _ _ (impl_DiskOk.C.p_ok _)).mono ?_; rintro e w1 ⟨rfl, hd⟩)
      · go_ret
        have h1 := HF.out
        rw [HS.out, if_pos (by assumption)] at h1
        exact ⟨by rw [h1]; rfl, xE HB.out HB.out.size hd.below⟩
      · go_roundg k1
        case measure => omega
        case rel => exact ⟨i + 1, by go_num, ⟨by have := HI.out; omega⟩, ⟨by rw [HF.out, HS.out, if_neg (ne_true_of_eq_false (by assumption))]⟩, ⟨xE HB.out HB.out.size hd.below⟩⟩
set_option maxHeartbeats 4000000 in
set_option maxRecDepth 100000 in
theorem impl_DiskOk.C.Contains (A0 : Option Addr) (c0 : Nat) (l0 : List ByteArray) (w : World) (hr0 : Kd.C Kd.string w A0 l0.length l0) (hc0 : l0.length ≤ c0) :
    Calls Try.prog 47 #[.slice A0 l0.length c0, .func (.func 48) #[] #[]] w fun e w' => e = .returned (.bool (impl_DiskOk.C.any l0)) ∧ Below w.heap.size w w' := by
  have HR := Aside0.mk hr0
  have HC := Aside0.mk hc0
  have HA := Aside0.mk (firstAt_any impl_DiskOk.C.p l0 0)
  clear hr0 hc0
  go_enter Try.func47, Try.ntmps47
  go_wp2_with (go_at_call 72; refine (impl_DiskOk.C.Index _ _ _ _ HR.out HC.out).mono ?_; rintro e w1 ⟨rfl, hb⟩)
  go_ret
  exact ⟨by unfold impl_DiskOk.C.any; rw [← HA.out]; rfl, hb⟩
def impl_DiskOk.W.p (x : S70) : Bool := !(decide (0 ≤ x.f0) && decide (x.f0 ≤ 41)) || decide ((x.f1.size : Int) > 1200)
def impl_DiskOk.W.any (l : List S70) : Bool := l.any impl_DiskOk.W.p
theorem impl_DiskOk.W.p_ok (x : S70) : impl_DiskOk_2.f x.f0 x.f1 = some (impl_DiskOk.W.p x) := by
  by_cases h1 : 0 ≤ x.f0 <;> by_cases h2 : x.f0 ≤ 41 <;> simp [impl_DiskOk_2.f, impl_isCell.f, impl_in.f, impl_DiskOk.W.p, h1, h2]
set_option maxHeartbeats 4000000 in
set_option maxRecDepth 100000 in
theorem impl_DiskOk.W.Index (A0 : Option Addr) (c0 : Nat) (l0 : List S70) (w : World) (hr0 : Kd.C k70 w A0 l0.length l0) (hc0 : l0.length ≤ c0) :
    Calls Try.prog 73 #[.slice A0 l0.length c0, .func (.func 50) #[] #[]] w fun e w' => e = .returned (.int .i64 (firstAt impl_DiskOk.W.p l0 0)) ∧ Below w.heap.size w w' := by
  have HR := Aside0.mk hr0
  have HM : Aside0 (l0.length ≤ 9223372036854775807) := ⟨hr0.2.1⟩
  clear hr0 hc0
  go_enter Try.func73, Try.ntmps73
  go_wp2
  go_loopg [5, 8] l0.length (fun kq v5 v8 w' => ∃ (i : Nat), v8 = .int .i64 (i : Int) ∧ Aside0 (i + kq = l0.length) ∧ Aside0 (firstAt impl_DiskOk.W.p l0 0 = firstAt impl_DiskOk.W.p (l0.drop i) i) ∧ Aside0 (Below w.heap.size w w'))
  case atStart => exact ⟨0, rfl, ⟨by omega⟩, ⟨by simp⟩, ⟨Below.refl _ _⟩⟩
  case round =>
    obtain ⟨i, rfl, HI, HF, HB⟩ := hrel
    cases gk with
    | zero =>
      have hi := HI.out
      have c1 : decide ((i : Int) < (l0.length : Int)) = false := by simp; omega
      go_wp2
      go_ret
      have := HF.out
      rw [List.drop_of_length_le (by omega)] at this
      exact ⟨by rw [this]; rfl, HB.out⟩
    | succ k1 =>
      have hi := HI.out
      have hlt : i < l0.length := by omega
      obtain ⟨ad, e1, hx0, hx1⟩ := at_T70 (Kd.zK HR.out HB.out) (i : Int) (by omega) (by omega)
      cases e1
      rw [Int.toNat_natCast] at hx0 hx1
      have HS := Aside0.mk (firstAt_drop impl_DiskOk.W.p z70 l0 i hlt)
      have c1 : decide ((i : Int) < (l0.length : Int)) = true := by simp; omega
      have c2 : (0 ≤ (i : Int)) = True := by simp
      have c3 : ((i : Int) < (l0.length : Int)) = True := by simp; omega
      have hm := HM.out
      have hlt' : i < l0.length := hlt
      clear hi hlt
      go_wp2_with (go_at_call 50; refine (impl_DiskOk_2.calls _ _ _ _ (impl_DiskOk.W.p_ok _)).mono ?_; rintro e w1 ⟨rfl, hd⟩)
      · go_ret
        have h1 := HF.out
        rw [HS.out, if_pos (by assumption)] at h1
        exact ⟨by rw [h1]; rfl, xE HB.out HB.out.size hd⟩
      · go_roundg k1
        case measure => omega
        case rel => exact ⟨i + 1, by go_num, ⟨by have := HI.out; omega⟩, ⟨by rw [HF.out, HS.out, if_neg (ne_true_of_eq_false (by assumption))]⟩, ⟨xE HB.out HB.out.size hd⟩⟩
set_option maxHeartbeats 4000000 in
set_option maxRecDepth 100000 in
theorem impl_DiskOk.W.Contains (A0 : Option Addr) (c0 : Nat) (l0 : List S70) (w : World) (hr0 : Kd.C k70 w A0 l0.length l0) (hc0 : l0.length ≤ c0) :
    Calls Try.prog 49 #[.slice A0 l0.length c0, .func (.func 50) #[] #[]] w fun e w' => e = .returned (.bool (impl_DiskOk.W.any l0)) ∧ Below w.heap.size w w' := by
  have HR := Aside0.mk hr0
  have HC := Aside0.mk hc0
  have HA := Aside0.mk (firstAt_any impl_DiskOk.W.p l0 0)
  clear hr0 hc0
  go_enter Try.func49, Try.ntmps49
  go_wp2_with (go_at_call 73; refine (impl_DiskOk.W.Index _ _ _ _ HR.out HC.out).mono ?_; rintro e w1 ⟨rfl, hb⟩)
  go_ret
  exact ⟨by unfold impl_DiskOk.W.any; rw [← HA.out]; rfl, hb⟩
def impl_DiskOk.ok (l0_0 : List ByteArray) (l0_1 : List S70) (a0_2 a0_3 : Int) : Bool := decide ((l0_0.length : Int) = 42) && (!(impl_DiskOk.C.any l0_0) && (decide ((l0_1.length : Int) ≤ 100) && (!(impl_DiskOk.W.any l0_1) && (decide (a0_2 ≥ -1) && decide (a0_3 ≥ -1)))))
def impl_DiskOk.f (l0_0 : List ByteArray) (l0_1 : List S70) (a0_2 a0_3 : Int) : Option Bool := some (impl_DiskOk.ok l0_0 l0_1 a0_2 a0_3)
set_option maxHeartbeats 4000000 in
set_option maxRecDepth 100000 in
theorem impl_DiskOk.calls (A0_0 : Option Addr) (c0_0 : Nat) (l0_0 : List ByteArray) (A0_1 : Option Addr) (c0_1 : Nat) (l0_1 : List S70) (a0_2 : Int) (a0_3 : Int) (r : Bool) (w : World) (hr0_0 : Kd.C Kd.string w A0_0 l0_0.length l0_0) (hc0_0 : l0_0.length ≤ c0_0) (hr0_1 : Kd.C k70 w A0_1 l0_1.length l0_1) (hc0_1 : l0_1.length ≤ c0_1) (h : impl_DiskOk.f l0_0 l0_1 a0_2 a0_3 = some r) :
    Calls Try.prog 22 #[.agg #[.slice A0_0 l0_0.length c0_0, .slice A0_1 l0_1.length c0_1, .int .i64 a0_2, .int .i64 a0_3]] w fun e w' => e = .returned (.bool r) ∧ Below w.heap.size w w' := by
  have hu26 := Try.underlying26
  obtain rfl := Option.some.inj h
  clear h
  have HR0 := Aside0.mk hr0_0
  have HC0 := Aside0.mk hc0_0
  have HR1 := Aside0.mk hr0_1
  have HC1 := Aside0.mk hc0_1
  have HB := Aside0.mk (Below.refl w.heap.size w)
  clear hr0_0 hc0_0 hr0_1 hc0_1
  go_enter Try.func22, Try.ntmps22
  go_wp2_with (first | ((with_reducible refine zA (N := 1) rfl ?_); (try (refine zZ (by rfl) ?_; dsimp only)); refine qU ?hg (N := 1) ?hd (cs := #[.slice A0_0 l0_0.length c0_0, .slice A0_1 l0_1.length c0_1, .int .i64 a0_2, .int .i64 a0_3]) (t := 26) ?hr ?_; (case hd => rfl); (case hg => rfl); (case hr => first | (go_simp; done) | (go_simp; rfl)); intro gb hg w1 hbox hb; have BKgb := Aside0.mk hbox; have HB1 := Aside0.mk (qL HB.out hb); have GEgb := Aside0.mk (by rw [hg]; exact HB.out.size : w.heap.size ≤ gb); clear HB; have HB := HB1; clear HB1; clear hb hbox hg; have hzgb_0 : w1.cell? ⟨gb, 0, none⟩ = some (.slice A0_0 l0_0.length c0_0) := (qA BKgb.out 0).trans rfl; have hfgb_0 : w1.frozen? ⟨gb, 0, none⟩ = false := qC BKgb.out 0; have hzgb_1 : w1.cell? ⟨gb, 1, none⟩ = some (.slice A0_1 l0_1.length c0_1) := (qA BKgb.out 1).trans rfl; have hfgb_1 : w1.frozen? ⟨gb, 1, none⟩ = false := qC BKgb.out 1; have hzgb_2 : w1.cell? ⟨gb, 2, none⟩ = some (.int .i64 a0_2) := (qA BKgb.out 2).trans rfl; have hfgb_2 : w1.frozen? ⟨gb, 2, none⟩ = false := qC BKgb.out 2; have hzgb_3 : w1.cell? ⟨gb, 3, none⟩ = some (.int .i64 a0_3) := (qA BKgb.out 3).trans rfl; have hfgb_3 : w1.frozen? ⟨gb, 3, none⟩ = false := qC BKgb.out 3) | (go_at_call 47; refine (impl_DiskOk.C.Contains _ _ _ _ (Kd.zK HR0.out HB.out) HC0.out).mono ?_; rintro e w2 ⟨rfl, hb⟩; have BK1 := Aside0.mk (qJ BKgb.out hb); have HB1 := Aside0.mk (qL HB.out hb); clear HB BKgb; have HB := HB1; have BKgb := BK1; clear HB1 BK1 hb; clear hzgb_0 hfgb_0 hzgb_1 hfgb_1 hzgb_2 hfgb_2 hzgb_3 hfgb_3; have hzgb_0 : w2.cell? ⟨gb, 0, none⟩ = some (.slice A0_0 l0_0.length c0_0) := (qA BKgb.out 0).trans rfl; have hfgb_0 : w2.frozen? ⟨gb, 0, none⟩ = false := qC BKgb.out 0; have hzgb_1 : w2.cell? ⟨gb, 1, none⟩ = some (.slice A0_1 l0_1.length c0_1) := (qA BKgb.out 1).trans rfl; have hfgb_1 : w2.frozen? ⟨gb, 1, none⟩ = false := qC BKgb.out 1; have hzgb_2 : w2.cell? ⟨gb, 2, none⟩ = some (.int .i64 a0_2) := (qA BKgb.out 2).trans rfl; have hfgb_2 : w2.frozen? ⟨gb, 2, none⟩ = false := qC BKgb.out 2; have hzgb_3 : w2.cell? ⟨gb, 3, none⟩ = some (.int .i64 a0_3) := (qA BKgb.out 3).trans rfl; have hfgb_3 : w2.frozen? ⟨gb, 3, none⟩ = false := qC BKgb.out 3) | (go_at_call 49; refine (impl_DiskOk.W.Contains _ _ _ _ (Kd.zK HR1.out HB.out) HC1.out).mono ?_; rintro e w3 ⟨rfl, hb⟩; have BK1 := Aside0.mk (qJ BKgb.out hb); have HB1 := Aside0.mk (qL HB.out hb); clear HB BKgb; have HB := HB1; have BKgb := BK1; clear HB1 BK1 hb; clear hzgb_0 hfgb_0 hzgb_1 hfgb_1 hzgb_2 hfgb_2 hzgb_3 hfgb_3; have hzgb_0 : w3.cell? ⟨gb, 0, none⟩ = some (.slice A0_0 l0_0.length c0_0) := (qA BKgb.out 0).trans rfl; have hfgb_0 : w3.frozen? ⟨gb, 0, none⟩ = false := qC BKgb.out 0; have hzgb_1 : w3.cell? ⟨gb, 1, none⟩ = some (.slice A0_1 l0_1.length c0_1) := (qA BKgb.out 1).trans rfl; have hfgb_1 : w3.frozen? ⟨gb, 1, none⟩ = false := qC BKgb.out 1; have hzgb_2 : w3.cell? ⟨gb, 2, none⟩ = some (.int .i64 a0_2) := (qA BKgb.out 2).trans rfl; have hfgb_2 : w3.frozen? ⟨gb, 2, none⟩ = false := qC BKgb.out 2; have hzgb_3 : w3.cell? ⟨gb, 3, none⟩ = some (.int .i64 a0_3) := (qA BKgb.out 3).trans rfl; have hfgb_3 : w3.frozen? ⟨gb, 3, none⟩ = false := qC BKgb.out 3))
  all_goals
    go_ret
    refine ⟨?_, HB.out⟩
    show _ = Ending.returned (.bool (impl_DiskOk.ok l0_0 l0_1 a0_2 a0_3))
    unfold impl_DiskOk.ok
    first | (simp_all; done) | (simp_all; omega)


/-! ### impl_clone_string: function 63 (a contract of this session's) -/
def impl_clone_string.f (l0 : List (ByteArray)) : Option (List (ByteArray)) := if l0.length < 8796093022208 then some l0 else none
set_option maxHeartbeats 4000000 in
set_option maxRecDepth 100000 in
theorem impl_clone_string.Clone (A0 : Option Addr) (c0 : Nat) (l0 : List (ByteArray)) (w : World) (hr0 : Kd.C Kd.string w A0 l0.length l0) (hc0 : l0.length ≤ c0) (h : l0.length < 8796093022208) :
    Calls Try.prog 79 #[.slice A0 l0.length c0] w fun e w' => ∃ v0_ : Value, e = .returned (v0_) ∧ Kd.R Kd.string 9 w' w.heap.size (fun _ => True) v0_ l0 ∧ Below w.heap.size w w' := by
  have hu23 := Try.underlying23
  have HL := Aside0.mk h
  cases A0 with
  | none =>
    obtain rfl : l0 = [] := by
      rcases Nat.eq_zero_or_pos l0.length with h0 | h0
      · exact List.eq_nil_of_length_eq_zero h0
      · obtain ⟨ad, e, _⟩ := hr0.2.2 h0; cases e
    clear hr0 h
    have hq : ∀ (W : World) , (binOp .eql 23 (.slice none 0 c0) (.slice none 0 0)).run Try.prog W = .ok (.bool true) W := fun W => Lib.run_eql_slice_nil W 23 9 none 0 c0 0 0 Try.underlying23
    go_enter Try.func79, Try.ntmps79
    go_wp2
    go_ret
    exact ⟨_, rfl, Kd.R_nil _ _ _ _ _, Below.refl _ _⟩
  | some ad =>
    have HR := Aside0.mk hr0
    clear hr0 h
    have hq : ∀ (W : World) , (binOp .eql 23 (.slice (some ad) l0.length c0) (.slice none 0 0)).run Try.prog W = .ok (.bool false) W := fun W => Lib.run_eql_slice_nil W 23 9 (some ad) l0.length c0 0 0 Try.underlying23
    go_enter Try.func79, Try.ntmps79
    go_wp2_with (first | ((with_reducible refine zA (N := 5) rfl ?_); refine Kd.R_lit Kd.string _ 9 ?hg (N := 5) ?hd (xs := ([] : List (ByteArray))) (inner := []) (ok := fun _ => True) (okp := fun _ => True) ?hr ?hp (fun _ hk => hk) trivial (Below.refl _ _) (Nat.le_refl _) (by simp) ?_; (case hd => rfl); (case hg => rfl); (case hr => first | (go_simp; done) | (go_simp; rfl)); (case hp => exact (Reps.none _ _)); intro v1 w1 ho1 hb1 hg_ hnew_; clear hg_ hnew_; have HO := Aside0.mk (Kd.zJ ho1 (qK (Below.refl _ _) : w.heap.size ≤ _)); have HB := Aside0.mk hb1; clear ho1 hb1) | ((with_reducible refine xF (b := .append) (xs := #[.tmp 5, .tmp 6]) rfl ?_); at_builtin; refine Kd.R_append_rows Kd.string (w0 := w) w.heap.size rfl (.tmp 5) (.tmp 6) 23 9 (.string ⟨#[]⟩) 16 rfl Try.underlying23 info9 rfl (by decide) (by omega) v1 [] l0 _ _ _ (fun _ => True) (fun _ => False) rfl rfl ?aO ?aR (fun _ _ h => h) (fun _ h => h.elim) ?aF ?aB ?aS ?aL ?_; (case aR => repeat (first | exact (Kd.zK HR.out HB.out) | (with_reducible refine Kd.qX ?_ _) | (with_reducible refine Kd.qY ?_ _) | (with_reducible refine Kd.zC ?_))); (case aB => exact HB.out); (case aF => exact (fun _ _ => trivial)); (case aO => exact HO.out); (case aS => exact (qK HB.out)); (case aL => have := HL.out; simp; omega); intro v2 w2 ho hb hg hat; clear hg hat; have HO2 := Aside0.mk ho; have HB2 := Aside0.mk hb; clear ho hb))
    go_ret
    exact ⟨_, rfl, HO2.out, HB2.out⟩
set_option maxHeartbeats 4000000 in
set_option maxRecDepth 100000 in
theorem impl_clone_string.calls (A0 : Option Addr) (c0 : Nat) (l0 : List (ByteArray)) (r : List (ByteArray)) (w : World) (hr0 : Kd.C Kd.string w A0 l0.length l0) (hc0 : l0.length ≤ c0) (h : impl_clone_string.f l0 = some r) :
    Calls Try.prog 63 #[.slice A0 l0.length c0] w fun e w' => ∃ v0_ : Value, e = .returned (v0_) ∧ Kd.R Kd.string 9 w' w.heap.size (fun _ => True) v0_ r ∧ Below w.heap.size w w' := by
  have hu23 := Try.underlying23
  unfold impl_clone_string.f at h
  by_cases hlim : l0.length < 8796093022208
  case neg => rw [if_neg hlim] at h; cases h
  rw [if_pos hlim] at h
  obtain rfl := Option.some.inj h
  have HR := Aside0.mk hr0
  have HC := Aside0.mk hc0
  have HL := Aside0.mk hlim
  clear hr0 h hc0 hlim
  go_enter Try.func63, Try.ntmps63
  go_wp2_with (first | (go_at_call 78; go_in) | (go_at_call 79; refine (impl_clone_string.Clone _ _ _ _ HR.out HC.out HL.out).mono ?_; rintro e w1 ⟨v1, rfl, ho1, hb1⟩; obtain ⟨A1, c1, rfl, hle, hm1⟩ := Kd.R_reads ho1; have hm : l0.length ≤ 9223372036854775807 := hm1.2.1; clear hm1; have HO := Aside0.mk ho1; have HB := Aside0.mk hb1; clear ho1 hb1))
  go_ret
  exact ⟨_, rfl, R_clip HO.out, HB.out⟩


/-! ### impl_Wait: function 66 (a contract of this session's) -/
def impl_Wait.f (l0 : List (S70)) : Option (List (S70)) := if l0.length < 5864062014805 then some l0 else none
set_option maxHeartbeats 4000000 in
set_option maxRecDepth 100000 in
theorem impl_Wait.Clone (A0 : Option Addr) (c0 : Nat) (l0 : List (S70)) (w : World) (hr0 : Kd.C k70 w A0 l0.length l0) (hc0 : l0.length ≤ c0) (h : l0.length < 5864062014805) :
    Calls Try.prog 82 #[.slice A0 l0.length c0] w fun e w' => ∃ v0_ : Value, e = .returned (v0_) ∧ Kd.R k70 70 w' w.heap.size (fun _ => True) v0_ l0 ∧ Below w.heap.size w w' := by
  have hu24 := Try.underlying24
  have HL := Aside0.mk h
  cases A0 with
  | none =>
    obtain rfl : l0 = [] := by
      rcases Nat.eq_zero_or_pos l0.length with h0 | h0
      · exact List.eq_nil_of_length_eq_zero h0
      · obtain ⟨ad, e, _⟩ := hr0.2.2 h0; cases e
    clear hr0 h
    have hq : ∀ (W : World) , (binOp .eql 24 (.slice none 0 c0) (.slice none 0 0)).run Try.prog W = .ok (.bool true) W := fun W => Lib.run_eql_slice_nil W 24 70 none 0 c0 0 0 Try.underlying24
    go_enter Try.func82, Try.ntmps82
    go_wp2
    go_ret
    exact ⟨_, rfl, Kd.R_nil _ _ _ _ _, Below.refl _ _⟩
  | some ad =>
    have HR := Aside0.mk hr0
    clear hr0 h
    have hq : ∀ (W : World) , (binOp .eql 24 (.slice (some ad) l0.length c0) (.slice none 0 0)).run Try.prog W = .ok (.bool false) W := fun W => Lib.run_eql_slice_nil W 24 70 (some ad) l0.length c0 0 0 Try.underlying24
    go_enter Try.func82, Try.ntmps82
    go_wp2_with (first | ((with_reducible refine zA (N := 5) rfl ?_); refine Kd.R_lit k70 _ 70 ?hg (N := 5) ?hd (xs := ([] : List (S70))) (inner := []) (ok := fun _ => True) (okp := fun _ => True) ?hr ?hp (fun _ hk => hk) trivial (Below.refl _ _) (Nat.le_refl _) (by simp) ?_; (case hd => rfl); (case hg => rfl); (case hr => first | (go_simp; done) | (go_simp; rfl)); (case hp => exact (Reps.none _ _)); intro v1 w1 ho1 hb1 hg_ hnew_; clear hg_ hnew_; have HO := Aside0.mk (Kd.zJ ho1 (qK (Below.refl _ _) : w.heap.size ≤ _)); have HB := Aside0.mk hb1; clear ho1 hb1) | ((with_reducible refine xF (b := .append) (xs := #[.tmp 5, .tmp 6]) rfl ?_); at_builtin; refine Kd.R_append_rows k70 (w0 := w) w.heap.size rfl (.tmp 5) (.tmp 6) 24 70 (.agg #[(.int .i64 0), (.string ⟨#[]⟩)]) 24 rfl Try.underlying24 info70 rfl (by decide) (by omega) v1 [] l0 _ _ _ (fun _ => True) (fun _ => False) rfl rfl ?aO ?aR (fun _ _ h => h) (fun _ h => h.elim) ?aF ?aB ?aS ?aL ?_; (case aR => repeat (first | exact (Kd.zK HR.out HB.out) | (with_reducible refine Kd.qX ?_ _) | (with_reducible refine Kd.qY ?_ _) | (with_reducible refine Kd.zC ?_))); (case aB => exact HB.out); (case aF => exact (fun _ _ => trivial)); (case aO => exact HO.out); (case aS => exact (qK HB.out)); (case aL => have := HL.out; simp; omega); intro v2 w2 ho hb hg hat; clear hg hat; have HO2 := Aside0.mk ho; have HB2 := Aside0.mk hb; clear ho hb))
    go_ret
    exact ⟨_, rfl, HO2.out, HB2.out⟩
set_option maxHeartbeats 4000000 in
set_option maxRecDepth 100000 in
theorem impl_Wait.calls (A0 : Option Addr) (c0 : Nat) (l0 : List (S70)) (r : List (S70)) (w : World) (hr0 : Kd.C k70 w A0 l0.length l0) (hc0 : l0.length ≤ c0) (h : impl_Wait.f l0 = some r) :
    Calls Try.prog 66 #[.slice A0 l0.length c0] w fun e w' => ∃ v0_ : Value, e = .returned (v0_) ∧ Kd.R k70 70 w' w.heap.size (fun _ => True) v0_ r ∧ Below w.heap.size w w' := by
  have hu24 := Try.underlying24
  unfold impl_Wait.f at h
  by_cases hlim : l0.length < 5864062014805
  case neg => rw [if_neg hlim] at h; cases h
  rw [if_pos hlim] at h
  obtain rfl := Option.some.inj h
  have HR := Aside0.mk hr0
  have HC := Aside0.mk hc0
  have HL := Aside0.mk hlim
  clear hr0 h hc0 hlim
  go_enter Try.func66, Try.ntmps66
  go_wp2_with (first | (go_at_call 81; go_in) | (go_at_call 82; refine (impl_Wait.Clone _ _ _ _ HR.out HC.out HL.out).mono ?_; rintro e w1 ⟨v1, rfl, ho1, hb1⟩; obtain ⟨A1, c1, rfl, hle, hm1⟩ := Kd.R_reads ho1; have hm : l0.length ≤ 9223372036854775807 := hm1.2.1; clear hm1; have HO := Aside0.mk ho1; have HB := Aside0.mk hb1; clear ho1 hb1))
  go_ret
  exact ⟨_, rfl, R_clip HO.out, HB.out⟩


/-! ### impl_Disk_copyOf: function 35 -/
def impl_Disk_copyOf.f (l0_0 : List ByteArray) (l0_1 : List (S70)) (a0_2 : Int) (a0_3 : Int) : Option (List ByteArray × (List (S70)) × Int × Int) := (impl_clone_string.f l0_0).bind fun t311 => ((impl_Wait.f l0_1).bind fun t314 => (some (t311, t314, a0_2, a0_3)))
def impl_Disk_copyOf.T1 : Bool × List (List Nat × List Nat) := (true, [([], []), ([0], [0]), ([1], [1]), ([], []), ([3], [3]), ([4, 2], [4]), ([], []), ([6], [6]), ([], []), ([8], [8]), ([2, 5, 7, 9], [2, 5, 7, 9]), ([10, 5, 0, 1, 2, 3, 4, 5, 6, 7, 8, 9, 10], [10])])
def impl_Disk_copyOf.B1 : List Nat := [0, 1, 3, 0, 8, 31, 0, 64, 0, 256, 1023, 2047]
theorem impl_Disk_copyOf.tab1 : rtab .any (opsOf Try.f35 1) = impl_Disk_copyOf.T1 := by kernel_rfl
theorem impl_Disk_copyOf.bits1 : waitsOk impl_Disk_copyOf.T1.2 impl_Disk_copyOf.B1 = true := by kernel_rfl
set_option maxHeartbeats 8000000 in
set_option maxRecDepth 100000 in
theorem impl_Disk_copyOf.calls (A0_0 : Option Addr) (c0_0 : Nat) (l0_0 : List ByteArray) (A0_1 : Option Addr) (c0_1 : Nat) (l0_1 : List (S70)) (a0_2 : Int) (a0_3 : Int) (r1 : List ByteArray) (r2 : List (S70)) (r3 : Int) (r4 : Int) (w : World) (hr0_0 : Kd.C Kd.string w A0_0 l0_0.length l0_0) (hc0_0 : l0_0.length ≤ c0_0) (hr0_1 : Kd.C k70 w A0_1 l0_1.length l0_1) (hc0_1 : l0_1.length ≤ c0_1) (h : impl_Disk_copyOf.f l0_0 l0_1 a0_2 a0_3 = some (r1, r2, r3, r4)) :
    Calls Try.prog 35 #[.agg #[.slice A0_0 l0_0.length c0_0, .slice A0_1 l0_1.length c0_1, .int .i64 a0_2, .int .i64 a0_3]] w fun e w' => ∃ v0_ v1_ : Value, e = .returned (.agg #[v0_, v1_, .int .i64 r3, .int .i64 r4]) ∧ Kd.R Kd.string 9 w' w.heap.size (fun _ => True) v0_ r1 ∧ Kd.R k70 70 w' w.heap.size (fun _ => True) v1_ r2 ∧ Below w.heap.size w w' := by
  have hu26 := Try.underlying26
  have HR0_0 := Aside0.mk hr0_0
  have HC0_0 := Aside0.mk hc0_0
  clear hr0_0 hc0_0
  have HR0_1 := Aside0.mk hr0_1
  have HC0_1 := Aside0.mk hc0_1
  clear hr0_1 hc0_1
  have HB := Aside0.mk (Below.refl w.heap.size w)
  have H : ((impl_clone_string.f l0_0).bind fun t311 => ((impl_Wait.f l0_1).bind fun t314 => (some (t311, t314, a0_2, a0_3)))) = some (r1, r2, r3, r4) := h
  clear h
  replace H := Option.bind_eq_some_iff.mp H
  obtain ⟨t311, A20, H⟩ := H
  replace H : ((impl_Wait.f l0_1).bind fun t314 => (some (t311, t314, a0_2, a0_3))) = some (r1, r2, r3, r4) := H
  have A2 := Aside0.mk A20
  clear A20
  replace H := Option.bind_eq_some_iff.mp H
  obtain ⟨t314, A30, H⟩ := H
  replace H : (some (t311, t314, a0_2, a0_3)) = some (r1, r2, r3, r4) := H
  have A3 := Aside0.mk A30
  clear A30
  simp only [Option.some.injEq, Prod.mk.injEq] at H
  obtain ⟨rfl, rfl, rfl, rfl⟩ := H
  go_enter Try.func35, Try.ntmps35
  try go_wp2_with (first | ((with_reducible refine zA (N := 1) rfl ?_); refine qU ?hg (N := 1) ?hd (cs := #[.slice A0_0 l0_0.length c0_0, .slice A0_1 l0_1.length c0_1, .int .i64 a0_2, .int .i64 a0_3]) (t := 26) ?hr ?_; (case hd => rfl); (case hg => rfl); (case hr => first | (go_simp; done) | (go_simp; rfl)); intro gb309 hg w4 hbox hb; have n0_ := Aside0.mk (qL (by repeat (first | (with_reducible first | exact HB.out | apply qF | apply qB | apply qE) | exact HB.out)) hb); have n1_ := Aside0.mk (hbox); have n2_ := Aside0.mk ((by rw [hg]; exact (qK (by repeat (first | (with_reducible first | exact HB.out | apply qF | apply qB | apply qE) | exact HB.out))) : w.heap.size ≤ gb309)); have n3_ := Aside0.mk ((by rw [hg]; exact (qK (by repeat (first | (with_reducible first | exact HB.out | apply qF | apply qB | apply qE) | exact HB.out))) : w.heap.size ≤ gb309)); clear HB; have HB := n0_; have BK309 := n1_; have GW309 := n2_; have GE309 := n3_; clear n0_ n1_ n2_ n3_; clear hb hbox hg) | ((with_reducible refine zA (N := 2) rfl ?_); refine qU ?hg (N := 2) ?hd (cs := #[.slice none 0 0, .slice none 0 0, .int .i64 0, .int .i64 0]) (t := 26) ?hr ?_; (case hd => rfl); (case hg => rfl); (case hr => first | (go_simp; done) | (go_simp; rfl)); intro gb310 hg w5 hbox hb; have n0_ := Aside0.mk (qJ (g := gb309) (o := .cells #[.slice A0_0 l0_0.length c0_0, .slice A0_1 l0_1.length c0_1, .int .i64 a0_2, .int .i64 a0_3] 26 (0, 0)) (bw_ BK309.out) hb); have n1_ := Aside0.mk (qL (by repeat (first | (with_reducible first | exact HB.out | apply qF | apply qB | apply qE | refine qD ?_ GE309.out) | exact HB.out)) hb); have n2_ := Aside0.mk (hbox); have n3_ := Aside0.mk ((by rw [hg]; exact (qK (by repeat (first | (with_reducible first | exact HB.out | apply qF | apply qB | apply qE | refine qD ?_ GE309.out) | exact HB.out))) : w.heap.size ≤ gb310)); have n4_ := Aside0.mk ((by rw [hg]; exact (qK (by repeat (first | (with_reducible first | exact HB.out | apply qF | apply qB | apply qE | refine qD ?_ GE309.out) | exact HB.out))) : w.heap.size ≤ gb310)); have n5_ := Aside0.mk ((by rw [hg]; exact Nat.ne_of_lt (zF (g := gb309) (o := .cells #[.slice A0_0 l0_0.length c0_0, .slice A0_1 l0_1.length c0_1, .int .i64 a0_2, .int .i64 a0_3] 26 (0, 0)) (bw_ BK309.out)) : gb309 ≠ gb310)); have n6_ := Aside0.mk ((by rw [hg]; exact Nat.ne_of_gt (zF (g := gb309) (o := .cells #[.slice A0_0 l0_0.length c0_0, .slice A0_1 l0_1.length c0_1, .int .i64 a0_2, .int .i64 a0_3] 26 (0, 0)) (bw_ BK309.out)) : gb310 ≠ gb309)); clear BK309; clear HB; have BK309 := n0_; have HB := n1_; have BK310 := n2_; have GW310 := n3_; have GE310 := n4_; have NB309_310 := n5_; have NB310_309 := n6_; clear n0_ n1_ n2_ n3_ n4_ n5_ n6_; clear hb hbox hg))
  have n0_ := Aside0.mk (qI BK309.out)
  have n1_ := Aside0.mk (qI BK310.out)
  have n2_ := Aside0.mk (qE HB.out)
  clear BK309
  clear BK310
  clear HB
  have BK309 := n0_
  have BK310 := n1_
  have HB := n2_
  clear n0_ n1_ n2_
  refine start_ (n := 12) (S := fun w' => w'.cell? ⟨gb309, 0, none⟩ = some (.slice A0_0 l0_0.length c0_0) ∧ w'.cell? ⟨gb309, 1, none⟩ = some (.slice A0_1 l0_1.length c0_1) ∧ w'.cell? ⟨gb309, 2, none⟩ = some (.int .i64 a0_2) ∧ w'.cell? ⟨gb309, 3, none⟩ = some (.int .i64 a0_3)) (ds := []) #[false, false, false, false, false, false, false, false, false, false, false, false] (by kernel_rfl) rfl rfl ⟨(qA BK309.out 0).trans rfl, (qA BK309.out 1).trans rfl, (qA BK309.out 2).trans rfl, (qA BK309.out 3).trans rfl⟩ (fun hHeld => ?_); refine xH impl_Disk_copyOf.tab1 impl_Disk_copyOf.bits1 (fun HT_ HW_ => ?_)
  generalize w5.drew = w6 at BK309 BK310 HB hHeld ⊢
  refine pure_ (i := 0) (N := some 3) (v := ?_) (a' := ?_) #[true, false, false, false, false, false, false, false, false, false, false, false] rfl rfl (zB HT_.out (by kernel_rfl)) (fun _ _ _ h => h) (Or.inl ⟨by rfl, ?_⟩) ?_ ?_
  rotate_left
  · intro w'
    go_simp
    with_reducible rfl
  rotate_left
  · simp only [Act.put, List.setIfInBounds_toArray, List.set_cons_zero, List.set_cons_succ, i64_w, i32_w]
    rfl
  refine pure_ (i := 3) (N := some 6) (v := ?_) (a' := ?_) #[true, false, false, true, false, false, false, false, false, false, false, false] rfl rfl (zB HT_.out (by kernel_rfl)) (fun _ _ _ h => h) (Or.inl ⟨by rfl, ?_⟩) ?_ ?_
  rotate_left
  · intro w'
    go_simp
    with_reducible rfl
  rotate_left
  · simp only [Act.put, List.setIfInBounds_toArray, List.set_cons_zero, List.set_cons_succ, i64_w, i32_w]
    rfl
  refine pure_ (i := 6) (N := some 9) (v := ?_) (a' := ?_) #[true, false, false, true, false, false, true, false, false, false, false, false] rfl rfl (zB HT_.out (by kernel_rfl)) (fun _ _ _ h => h) (Or.inl ⟨by rfl, ?_⟩) ?_ ?_
  rotate_left
  · intro w'
    go_simp
    with_reducible rfl
  rotate_left
  · simp only [Act.put, List.setIfInBounds_toArray, List.set_cons_zero, List.set_cons_succ, i64_w, i32_w]
    rfl
  refine pure_ (i := 8) (N := some 11) (v := ?_) (a' := ?_) #[true, false, false, true, false, false, true, false, true, false, false, false] rfl rfl (zB HT_.out (by kernel_rfl)) (fun _ _ _ h => h) (Or.inl ⟨by rfl, ?_⟩) ?_ ?_
  rotate_left
  · intro w'
    go_simp
    with_reducible rfl
  rotate_left
  · simp only [Act.put, List.setIfInBounds_toArray, List.set_cons_zero, List.set_cons_succ, i64_w, i32_w]
    rfl
  refine take_ (i := 1) (N := some 4) (v := ?_) (a' := ?_) #[true, true, false, true, false, false, true, false, true, false, false, false] rfl rfl (zQ HT_.out HW_.out (by kernel_rfl)) (fun _ _ _ h => h) (Or.inl ⟨by rfl, ?_⟩) hHeld ?_ ?_
  rotate_left
  · rintro w' ⟨s0, s1, s2, s3⟩
    go_simp
    with_reducible rfl
  rotate_left
  · simp only [Act.put, List.setIfInBounds_toArray, List.set_cons_zero, List.set_cons_succ, i64_w, i32_w]
    rfl
  refine take_ (i := 4) (N := some 7) (v := ?_) (a' := ?_) #[true, true, false, true, true, false, true, false, true, false, false, false] rfl rfl (zQ HT_.out HW_.out (by kernel_rfl)) (fun _ _ _ h => h) (Or.inl ⟨by rfl, ?_⟩) hHeld ?_ ?_
  rotate_left
  · rintro w' ⟨s0, s1, s2, s3⟩
    go_simp
    with_reducible rfl
  rotate_left
  · simp only [Act.put, List.setIfInBounds_toArray, List.set_cons_zero, List.set_cons_succ, i64_w, i32_w]
    rfl
  refine take_ (i := 7) (N := some 10) (v := ?_) (a' := ?_) #[true, true, false, true, true, false, true, true, true, false, false, false] rfl rfl (zQ HT_.out HW_.out (by kernel_rfl)) (fun _ _ _ h => h) (Or.inl ⟨by rfl, ?_⟩) hHeld ?_ ?_
  rotate_left
  · rintro w' ⟨s0, s1, s2, s3⟩
    go_simp
    with_reducible rfl
  rotate_left
  · simp only [Act.put, List.setIfInBounds_toArray, List.set_cons_zero, List.set_cons_succ, i64_w, i32_w]
    rfl
  refine take_ (i := 9) (N := some 12) (v := ?_) (a' := ?_) #[true, true, false, true, true, false, true, true, true, true, false, false] rfl rfl (zQ HT_.out HW_.out (by kernel_rfl)) (fun _ _ _ h => h) (Or.inl ⟨by rfl, ?_⟩) hHeld ?_ ?_
  rotate_left
  · rintro w' ⟨s0, s1, s2, s3⟩
    go_simp
    with_reducible rfl
  rotate_left
  · simp only [Act.put, List.setIfInBounds_toArray, List.set_cons_zero, List.set_cons_succ, i64_w, i32_w]
    rfl
  refine one_ (i := 2) (N := some 5) #[true, true, true, true, true, false, true, true, true, true, false, false] rfl rfl (zT HT_.out (by kernel_rfl)) (by decide) (fun K hK => ?_)
  refine goes_ Try.func63 (by kernel_rfl) rfl #[.slice A0_0 l0_0.length c0_0] (by rfl) rfl rfl (by (try simp only [List.map_toArray, List.map_cons, List.map_nil]); first | done | rfl | (simp only [List.length_drop, List.length_take]; rfl)) ?_
  with_reducible refine (impl_clone_string.calls _ _ l0_0 t311 _ ?side1 ?side2 A2.out).mono ?_
  (case side1 => repeat (first | exact (Kd.zK HR0_0.out HB.out) | (with_reducible refine Kd.qX ?_ _) | (with_reducible refine Kd.qY ?_ _) | (with_reducible refine Kd.zC ?_)))
  (case side2 => exact HC0_0.out)
  rintro e w7 ⟨v312, rfl, ho0, hb⟩
  refine ⟨_, rfl, ?_⟩
  have n0_ := Aside0.mk (Kd.zJ ho0 (qK (by repeat (first | (with_reducible first | exact HB.out | apply qF | apply qB | apply qE | refine qD ?_ GE309.out | refine qD ?_ GE310.out) | exact HB.out))))
  have n1_ := Aside0.mk (qJ (g := gb309) (o := .cells #[.slice A0_0 l0_0.length c0_0, .slice A0_1 l0_1.length c0_1, .int .i64 a0_2, .int .i64 a0_3] 26 (0, 0)) (bw_ BK309.out) hb)
  have n2_ := Aside0.mk (qJ (g := gb310) (o := .cells #[.slice none 0 0, .slice none 0 0, .int .i64 0, .int .i64 0] 26 (0, 0)) (bw_ BK310.out) hb)
  have n3_ := Aside0.mk (qL (by repeat (first | (with_reducible first | exact HB.out | apply qF | apply qB | apply qE | refine qD ?_ GE309.out | refine qD ?_ GE310.out) | exact HB.out)) hb)
  clear BK309
  clear BK310
  clear HB
  have HO313 := n0_
  have BK309 := n1_
  have BK310 := n2_
  have HB := n3_
  clear n0_ n1_ n2_ n3_
  (try clear hb)
  (try clear hb2)
  (try clear hk)
  (try clear hi)
  (try clear ho0)
  refine hK.out _ _ ⟨(qA BK309.out 0).trans rfl, (qA BK309.out 1).trans rfl, (qA BK309.out 2).trans rfl, (qA BK309.out 3).trans rfl⟩ (fun hHeld => ?_)
  clear hK K
  refine norm_ (a' := ?_) ?_ ?_
  rotate_left
  · show Act.put _ (some 5) _ = _
    simp only [Act.put, List.setIfInBounds_toArray, List.set_cons_zero, List.set_cons_succ, i64_w, i32_w]
    rfl
  refine one_ (i := 5) (N := some 8) #[true, true, true, true, true, true, true, true, true, true, false, false] rfl rfl (zT HT_.out (by kernel_rfl)) (by decide) (fun K hK => ?_)
  refine goes_ Try.func66 (by kernel_rfl) rfl #[.slice A0_1 l0_1.length c0_1] (by rfl) rfl rfl (by (try simp only [List.map_toArray, List.map_cons, List.map_nil]); first | done | rfl | (simp only [List.length_drop, List.length_take]; rfl)) ?_
  with_reducible refine (impl_Wait.calls _ _ l0_1 t314 _ ?side1 ?side2 A3.out).mono ?_
  (case side1 => repeat (first | exact (Kd.zK HR0_1.out HB.out) | (with_reducible refine Kd.qX ?_ _) | (with_reducible refine Kd.qY ?_ _) | (with_reducible refine Kd.zC ?_)))
  (case side2 => exact HC0_1.out)
  rintro e w8 ⟨v315, rfl, ho0, hb⟩
  refine ⟨_, rfl, ?_⟩
  have n0_ := Aside0.mk (Kd.qZ (rw_ HO313.out) hb)
  have n1_ := Aside0.mk (Kd.zJ ho0 (qK (by repeat (first | (with_reducible first | exact HB.out | apply qF | apply qB | apply qE | refine qD ?_ GE309.out | refine qD ?_ GE310.out) | exact HB.out))))
  have n2_ := Aside0.mk (qJ (g := gb309) (o := .cells #[.slice A0_0 l0_0.length c0_0, .slice A0_1 l0_1.length c0_1, .int .i64 a0_2, .int .i64 a0_3] 26 (0, 0)) (bw_ BK309.out) hb)
  have n3_ := Aside0.mk (qJ (g := gb310) (o := .cells #[.slice none 0 0, .slice none 0 0, .int .i64 0, .int .i64 0] 26 (0, 0)) (bw_ BK310.out) hb)
  have n4_ := Aside0.mk (qL (by repeat (first | (with_reducible first | exact HB.out | apply qF | apply qB | apply qE | refine qD ?_ GE309.out | refine qD ?_ GE310.out) | exact HB.out)) hb)
  clear HO313
  clear BK309
  clear BK310
  clear HB
  have HO313 := n0_
  have HO316 := n1_
  have BK309 := n2_
  have BK310 := n3_
  have HB := n4_
  clear n0_ n1_ n2_ n3_ n4_
  (try clear hb)
  (try clear hb2)
  (try clear hk)
  (try clear hi)
  (try clear ho0)
  obtain ⟨Ao9, co9, eo9⟩ := Kd.zE HO316.out
  (first | subst eo9 | (injection eo9 with f1_ f2_ f3_; have f4_ := f1_.symm; have f5_ := f3_.symm; clear f1_ f2_ f3_; subst f4_; subst f5_))
  obtain ⟨Ao10, co10, eo10⟩ := Kd.zE HO313.out
  (first | subst eo10 | (injection eo10 with f1_ f2_ f3_; have f4_ := f1_.symm; have f5_ := f3_.symm; clear f1_ f2_ f3_; subst f4_; subst f5_))
  refine hK.out _ _ ⟨(qA BK309.out 0).trans rfl, (qA BK309.out 1).trans rfl, (qA BK309.out 2).trans rfl, (qA BK309.out 3).trans rfl⟩ (fun hHeld => ?_)
  clear hK K
  refine norm_ (a' := ?_) ?_ ?_
  rotate_left
  · show Act.put _ (some 8) _ = _
    simp only [Act.put, List.setIfInBounds_toArray, List.set_cons_zero, List.set_cons_succ, i64_w, i32_w]
    rfl
  refine pure_ (i := 10) (N := some 13) (v := ?_) (a' := ?_) #[true, true, true, true, true, true, true, true, true, true, true, false] rfl rfl (zB HT_.out (by kernel_rfl)) (fun _ _ _ h => h) (Or.inl ⟨by rfl, ?_⟩) ?_ ?_
  rotate_left
  · intro w'
    go_simp
    with_reducible rfl
  rotate_left
  · simp only [Act.put, List.setIfInBounds_toArray, List.set_cons_zero, List.set_cons_succ, i64_w, i32_w]
    rfl
  refine one_ (i := 11) (N := none) #[true, true, true, true, true, true, true, true, true, true, true, true] rfl rfl (zT HT_.out (by kernel_rfl)) (by decide) (fun K hK => ?_)
  have hs11 : w8.cell? ⟨gb310, 0, none⟩ = some (.slice none 0 0) := (qA BK310.out 0).trans rfl
  have hfs11 := qC BK310.out 0
  have hns11_0 := NB309_310.out
  have hms11_0 := NB310_309.out
  have hs12 : w8.cell? ⟨gb310, 1, none⟩ = some (.slice none 0 0) := (qA BK310.out 1).trans rfl
  have hfs12 := qC BK310.out 1
  have hns12_0 := NB309_310.out
  have hms12_0 := NB310_309.out
  have hs13 : w8.cell? ⟨gb310, 2, none⟩ = some (.int .i64 0) := (qA BK310.out 2).trans rfl
  have hfs13 := qC BK310.out 2
  have hns13_0 := NB309_310.out
  have hms13_0 := NB310_309.out
  have hs14 : w8.cell? ⟨gb310, 3, none⟩ = some (.int .i64 0) := (qA BK310.out 3).trans rfl
  have hfs14 := qC BK310.out 3
  have hns14_0 := NB309_310.out
  have hms14_0 := NB310_309.out
  refine skip_ (w1 := ?_) (by rfl) rfl ?_ ?_
  rotate_left
  · go_simp
    rfl
  refine hK.out _ _ ⟨((zY (p := ⟨gb310, _, none⟩) NB309_310.out _).trans (((zY (p := ⟨gb310, _, none⟩) NB309_310.out _).trans (((zY (p := ⟨gb310, _, none⟩) NB309_310.out _).trans (((zY (p := ⟨gb310, _, none⟩) NB309_310.out _).trans (hHeld.1)))))))), ((zY (p := ⟨gb310, _, none⟩) NB309_310.out _).trans (((zY (p := ⟨gb310, _, none⟩) NB309_310.out _).trans (((zY (p := ⟨gb310, _, none⟩) NB309_310.out _).trans (((zY (p := ⟨gb310, _, none⟩) NB309_310.out _).trans (hHeld.2.1)))))))), ((zY (p := ⟨gb310, _, none⟩) NB309_310.out _).trans (((zY (p := ⟨gb310, _, none⟩) NB309_310.out _).trans (((zY (p := ⟨gb310, _, none⟩) NB309_310.out _).trans (((zY (p := ⟨gb310, _, none⟩) NB309_310.out _).trans (hHeld.2.2.1)))))))), ((zY (p := ⟨gb310, _, none⟩) NB309_310.out _).trans (((zY (p := ⟨gb310, _, none⟩) NB309_310.out _).trans (((zY (p := ⟨gb310, _, none⟩) NB309_310.out _).trans (((zY (p := ⟨gb310, _, none⟩) NB309_310.out _).trans (hHeld.2.2.2))))))))⟩ (fun hHeld => ?_)
  clear hK K
  refine done_ (done_of HT_.out (by kernel_rfl)) ?_
  try go_wp2
  refine bodyPost_ret (results_cell_row rfl _ _ gb310 26 #[.slice Ao10 t311.length co10, .slice Ao9 t314.length co9, .int .i64 a0_2, .int .i64 a0_3] (0, 0) _ rfl (by (with_reducible repeat (first | refine qH ?_ _ | refine qI ?_ | refine qG ?_ _)); refine qO (cs := #[.slice Ao10 t311.length co10, .slice Ao9 t314.length co9, .int .i64 a0_2, .int .i64 0]) ?_ 3 _ rfl; (with_reducible repeat (first | refine qH ?_ _ | refine qI ?_ | refine qG ?_ _)); refine qO (cs := #[.slice Ao10 t311.length co10, .slice Ao9 t314.length co9, .int .i64 0, .int .i64 0]) ?_ 2 _ rfl; (with_reducible repeat (first | refine qH ?_ _ | refine qI ?_ | refine qG ?_ _)); refine qO (cs := #[.slice Ao10 t311.length co10, .slice none 0 0, .int .i64 0, .int .i64 0]) ?_ 1 _ rfl; (with_reducible repeat (first | refine qH ?_ _ | refine qI ?_ | refine qG ?_ _)); refine qO (cs := #[.slice none 0 0, .slice none 0 0, .int .i64 0, .int .i64 0]) ?_ 0 _ rfl; (with_reducible repeat (first | refine qH ?_ _ | refine qI ?_ | refine qG ?_ _)); exact BK310.out) Try.underlying26 rfl (by kernel_rfl)) rfl ?_
  exact ⟨_, _, by first | rfl | (simp [errW_none, errW_some] <;> rfl) | (simp [*, errW_none, errW_some] <;> rfl), by (with_reducible repeat (first | apply Kd.zI | apply Kd.zH | apply Kd.zD)); exact Kd.qS (Kd.R_far (p := ⟨gb310, 3, none⟩) (Kd.R_far (p := ⟨gb310, 2, none⟩) (Kd.R_far (p := ⟨gb310, 1, none⟩) (Kd.R_far (p := ⟨gb310, 0, none⟩) (Kd.qW HO313.out BK310.out (by decide)) (fun _ hk => hk.2) (.slice Ao10 t311.length co10)) (fun _ hk => hk.2) (.slice Ao9 t314.length co9)) (fun _ hk => hk.2) (.int .i64 a0_2)) (fun _ hk => hk.2) (.int .i64 a0_3)) (fun _ hk => trivial), by (with_reducible repeat (first | apply Kd.zI | apply Kd.zH | apply Kd.zD)); exact Kd.qS (Kd.R_far (p := ⟨gb310, 3, none⟩) (Kd.R_far (p := ⟨gb310, 2, none⟩) (Kd.R_far (p := ⟨gb310, 1, none⟩) (Kd.R_far (p := ⟨gb310, 0, none⟩) (Kd.qW HO316.out BK310.out (by decide)) (fun _ hk => hk.2) (.slice Ao10 t311.length co10)) (fun _ hk => hk.2) (.slice Ao9 t314.length co9)) (fun _ hk => hk.2) (.int .i64 a0_2)) (fun _ hk => hk.2) (.int .i64 a0_3)) (fun _ hk => trivial), by repeat (first | (with_reducible first | exact HB.out | apply qF | apply qB | apply qE | refine qD ?_ GE309.out | refine qD ?_ GE310.out) | exact HB.out)⟩

/-! ### impl_DiskSet: function 12 -/
def impl_DiskSet.f (l0_0 : List ByteArray) (l0_1 : List (S70)) (a0_2 : Int) (a0_3 : Int) (a1 : Int) (a2 : Int) : Option (List ByteArray × (List (S70)) × Int × Int) := (impl_DiskOk.f l0_0 l0_1 a0_2 a0_3).bind fun t319 => (if t319 = true then (if a1 < (-1) then (some (([] : List ByteArray), ([] : List (S70)), 0, 0)) else (if a2 < (-1) then (some (([] : List ByteArray), ([] : List (S70)), 0, 0)) else ((impl_Disk_copyOf.f l0_0 l0_1 a0_2 a0_3).bind fun bt320 => (some (bt320.1, bt320.2.1, a1, a2))))) else (some (([] : List ByteArray), ([] : List (S70)), 0, 0)))
set_option maxHeartbeats 8000000 in
set_option maxRecDepth 100000 in
theorem impl_DiskSet.calls (A0_0 : Option Addr) (c0_0 : Nat) (l0_0 : List ByteArray) (A0_1 : Option Addr) (c0_1 : Nat) (l0_1 : List (S70)) (a0_2 : Int) (a0_3 : Int) (a1 : Int) (a2 : Int) (r1 : List ByteArray) (r2 : List (S70)) (r3 : Int) (r4 : Int) (w : World) (hr0_0 : Kd.C Kd.string w A0_0 l0_0.length l0_0) (hc0_0 : l0_0.length ≤ c0_0) (hr0_1 : Kd.C k70 w A0_1 l0_1.length l0_1) (hc0_1 : l0_1.length ≤ c0_1) (h : impl_DiskSet.f l0_0 l0_1 a0_2 a0_3 a1 a2 = some (r1, r2, r3, r4)) :
    Calls Try.prog 12 #[.agg #[.slice A0_0 l0_0.length c0_0, .slice A0_1 l0_1.length c0_1, .int .i64 a0_2, .int .i64 a0_3], .int .i64 a1, .int .i64 a2] w fun e w' => ∃ v0_ v1_ : Value, e = .returned (.agg #[v0_, v1_, .int .i64 r3, .int .i64 r4]) ∧ Kd.R Kd.string 9 w' w.heap.size (fun _ => True) v0_ r1 ∧ Kd.R k70 70 w' w.heap.size (fun _ => True) v1_ r2 ∧ Below w.heap.size w w' := by
  have hu26 := Try.underlying26
  have HR0_0 := Aside0.mk hr0_0
  have HC0_0 := Aside0.mk hc0_0
  clear hr0_0 hc0_0
  have HR0_1 := Aside0.mk hr0_1
  have HC0_1 := Aside0.mk hc0_1
  clear hr0_1 hc0_1
  have HB := Aside0.mk (Below.refl w.heap.size w)
  have H : ((impl_DiskOk.f l0_0 l0_1 a0_2 a0_3).bind fun t319 => (if t319 = true then (if a1 < (-1) then (some (([] : List ByteArray), ([] : List (S70)), 0, 0)) else (if a2 < (-1) then (some (([] : List ByteArray), ([] : List (S70)), 0, 0)) else ((impl_Disk_copyOf.f l0_0 l0_1 a0_2 a0_3).bind fun bt320 => (some (bt320.1, bt320.2.1, a1, a2))))) else (some (([] : List ByteArray), ([] : List (S70)), 0, 0)))) = some (r1, r2, r3, r4) := h
  clear h
  replace H := Option.bind_eq_some_iff.mp H
  obtain ⟨t319, A40, H⟩ := H
  replace H : (if t319 = true then (if a1 < (-1) then (some (([] : List ByteArray), ([] : List (S70)), 0, 0)) else (if a2 < (-1) then (some (([] : List ByteArray), ([] : List (S70)), 0, 0)) else ((impl_Disk_copyOf.f l0_0 l0_1 a0_2 a0_3).bind fun bt320 => (some (bt320.1, bt320.2.1, a1, a2))))) else (some (([] : List ByteArray), ([] : List (S70)), 0, 0))) = some (r1, r2, r3, r4) := H
  have A4 := Aside0.mk A40
  clear A40
  by_cases c5 : t319 = true
  · subst c5
    have H1 : (if a1 < (-1) then (some (([] : List ByteArray), ([] : List (S70)), 0, 0)) else (if a2 < (-1) then (some (([] : List ByteArray), ([] : List (S70)), 0, 0)) else ((impl_Disk_copyOf.f l0_0 l0_1 a0_2 a0_3).bind fun bt320 => (some (bt320.1, bt320.2.1, a1, a2))))) = some (r1, r2, r3, r4) := by rw [if_pos rfl] at H; exact H
    clear H
    have H := H1
    clear H1
    by_cases c6 : a1 < (-1)
    · rw [if_pos c6] at H
      have c6b0 : decide (a1 < (-1)) = true := decide_eq_true c6
      clear c6
      simp only [Option.some.injEq, Prod.mk.injEq] at H
      obtain ⟨rfl, rfl, rfl, rfl⟩ := H
      go_enter Try.func12, Try.ntmps12
      go_wp2_with (first | ((with_reducible refine zA (N := 3) rfl ?_); refine qU ?hg (N := 3) ?hd (cs := #[.slice A0_0 l0_0.length c0_0, .slice A0_1 l0_1.length c0_1, .int .i64 a0_2, .int .i64 a0_3]) (t := 26) ?hr ?_; (case hd => rfl); (case hg => rfl); (case hr => first | (go_simp; done) | (go_simp; rfl)); intro gb317 hg w7 hbox hb; have n0_ := Aside0.mk (qL (by repeat (first | (with_reducible first | exact HB.out | apply qF | apply qB | apply qE) | exact HB.out)) hb); have n1_ := Aside0.mk (hbox); have n2_ := Aside0.mk ((by rw [hg]; exact (qK (by repeat (first | (with_reducible first | exact HB.out | apply qF | apply qB | apply qE) | exact HB.out))) : w.heap.size ≤ gb317)); have n3_ := Aside0.mk ((by rw [hg]; exact (qK (by repeat (first | (with_reducible first | exact HB.out | apply qF | apply qB | apply qE) | exact HB.out))) : w.heap.size ≤ gb317)); clear HB; have HB := n0_; have BK317 := n1_; have GW317 := n2_; have GE317 := n3_; clear n0_ n1_ n2_ n3_; clear hb hbox hg) | ((with_reducible refine zA (N := 6) rfl ?_); refine qU ?hg (N := 6) ?hd (cs := #[.slice none 0 0, .slice none 0 0, .int .i64 0, .int .i64 0]) (t := 26) ?hr ?_; (case hd => rfl); (case hg => rfl); (case hr => first | (go_simp; done) | (go_simp; rfl)); intro gb318 hg w8 hbox hb; have n0_ := Aside0.mk (qJ (g := gb317) (o := .cells #[.slice A0_0 l0_0.length c0_0, .slice A0_1 l0_1.length c0_1, .int .i64 a0_2, .int .i64 a0_3] 26 (0, 0)) (bw_ BK317.out) hb); have n1_ := Aside0.mk (qL (by repeat (first | (with_reducible first | exact HB.out | apply qF | apply qB | apply qE | refine qD ?_ GE317.out) | exact HB.out)) hb); have n2_ := Aside0.mk (hbox); have n3_ := Aside0.mk ((by rw [hg]; exact (qK (by repeat (first | (with_reducible first | exact HB.out | apply qF | apply qB | apply qE | refine qD ?_ GE317.out) | exact HB.out))) : w.heap.size ≤ gb318)); have n4_ := Aside0.mk ((by rw [hg]; exact (qK (by repeat (first | (with_reducible first | exact HB.out | apply qF | apply qB | apply qE | refine qD ?_ GE317.out) | exact HB.out))) : w.heap.size ≤ gb318)); have n5_ := Aside0.mk ((by rw [hg]; exact Nat.ne_of_lt (zF (g := gb317) (o := .cells #[.slice A0_0 l0_0.length c0_0, .slice A0_1 l0_1.length c0_1, .int .i64 a0_2, .int .i64 a0_3] 26 (0, 0)) (bw_ BK317.out)) : gb317 ≠ gb318)); have n6_ := Aside0.mk ((by rw [hg]; exact Nat.ne_of_gt (zF (g := gb317) (o := .cells #[.slice A0_0 l0_0.length c0_0, .slice A0_1 l0_1.length c0_1, .int .i64 a0_2, .int .i64 a0_3] 26 (0, 0)) (bw_ BK317.out)) : gb318 ≠ gb317)); clear BK317; clear HB; have BK317 := n0_; have HB := n1_; have BK318 := n2_; have GW318 := n3_; have GE318 := n4_; have NB317_318 := n5_; have NB318_317 := n6_; clear n0_ n1_ n2_ n3_ n4_ n5_ n6_; clear hb hbox hg; have hnb9 := NB317_318.out; have hnc9 := NB318_317.out; have hcz10_0 : w8.cell? ⟨gb317, 0, none⟩ = some (.slice A0_0 l0_0.length c0_0) := (qA BK317.out 0).trans rfl; have hcz10_1 : w8.cell? ⟨gb317, 1, none⟩ = some (.slice A0_1 l0_1.length c0_1) := (qA BK317.out 1).trans rfl; have hcz10_2 : w8.cell? ⟨gb317, 2, none⟩ = some (.int .i64 a0_2) := (qA BK317.out 2).trans rfl; have hcz10_3 : w8.cell? ⟨gb317, 3, none⟩ = some (.int .i64 a0_3) := (qA BK317.out 3).trans rfl; have hfz10_0 := qC BK317.out 0; have hfz10_1 := qC BK317.out 1; have hfz10_2 := qC BK317.out 2; have hfz10_3 := qC BK317.out 3) | ((with_reducible refine qV (f := 22) rfl ?_); refine zL (some 9) rfl rfl Try.func22 (by kernel_rfl) rfl #[.agg #[.slice A0_0 l0_0.length c0_0, .slice A0_1 l0_1.length c0_1, .int .i64 a0_2, .int .i64 a0_3]] rfl (by (try simp only [List.map_toArray, List.map_cons, List.map_nil]); first | done | rfl | (simp only [List.length_drop, List.length_take]; rfl)) ?_; (with_reducible refine (impl_DiskOk.calls _ _ l0_0 _ _ l0_1 a0_2 a0_3 true _ ?side1 ?side2 ?side3 ?side4 A4.out).mono ?_); (case side1 => repeat (first | exact (Kd.zK HR0_0.out HB.out) | (with_reducible refine Kd.qX ?_ _) | (with_reducible refine Kd.qY ?_ _) | (with_reducible refine Kd.zC ?_))); (case side2 => exact HC0_0.out); (case side3 => repeat (first | exact (Kd.zK HR0_1.out HB.out) | (with_reducible refine Kd.qX ?_ _) | (with_reducible refine Kd.qY ?_ _) | (with_reducible refine Kd.zC ?_))); (case side4 => exact HC0_1.out); rintro e w11 ⟨rfl, hb⟩; refine ⟨_, rfl, ?_⟩; have n0_ := Aside0.mk (qJ (g := gb317) (o := .cells #[.slice A0_0 l0_0.length c0_0, .slice A0_1 l0_1.length c0_1, .int .i64 a0_2, .int .i64 a0_3] 26 (0, 0)) (bw_ BK317.out) hb); have n1_ := Aside0.mk (qJ (g := gb318) (o := .cells #[.slice none 0 0, .slice none 0 0, .int .i64 0, .int .i64 0] 26 (0, 0)) (bw_ BK318.out) hb); have n2_ := Aside0.mk (qL (by repeat (first | (with_reducible first | exact HB.out | apply qF | apply qB | apply qE | refine qD ?_ GE317.out | refine qD ?_ GE318.out) | exact HB.out)) hb); clear BK317; clear BK318; clear HB; have BK317 := n0_; have BK318 := n1_; have HB := n2_; clear n0_ n1_ n2_; (try clear hb); (try clear hb2); (try clear hk); (try clear hi); have hcz12_0 : w11.cell? ⟨gb318, 0, none⟩ = some (.slice none 0 0) := (qA BK318.out 0).trans rfl; have hcz12_1 : w11.cell? ⟨gb318, 1, none⟩ = some (.slice none 0 0) := (qA BK318.out 1).trans rfl; have hcz12_2 : w11.cell? ⟨gb318, 2, none⟩ = some (.int .i64 0) := (qA BK318.out 2).trans rfl; have hcz12_3 : w11.cell? ⟨gb318, 3, none⟩ = some (.int .i64 0) := (qA BK318.out 3).trans rfl; have hfz12_0 := qC BK318.out 0; have hfz12_1 := qC BK318.out 1; have hfz12_2 := qC BK318.out 2; have hfz12_3 := qC BK318.out 3))
      refine bodyPost_ret (results_cell_row rfl _ _ gb318 26 #[.slice none 0 0, .slice none 0 0, .int .i64 0, .int .i64 0] (0, 0) _ rfl (by (with_reducible repeat (first | refine qH ?_ _ | refine qI ?_ | refine qG ?_ _)); refine qO (cs := #[.slice none 0 0, .slice none 0 0, .int .i64 0, .int .i64 0]) ?_ 3 _ rfl; (with_reducible repeat (first | refine qH ?_ _ | refine qI ?_ | refine qG ?_ _)); refine qO (cs := #[.slice none 0 0, .slice none 0 0, .int .i64 0, .int .i64 0]) ?_ 2 _ rfl; (with_reducible repeat (first | refine qH ?_ _ | refine qI ?_ | refine qG ?_ _)); refine qO (cs := #[.slice none 0 0, .slice none 0 0, .int .i64 0, .int .i64 0]) ?_ 1 _ rfl; (with_reducible repeat (first | refine qH ?_ _ | refine qI ?_ | refine qG ?_ _)); refine qO (cs := #[.slice none 0 0, .slice none 0 0, .int .i64 0, .int .i64 0]) ?_ 0 _ rfl; (with_reducible repeat (first | refine qH ?_ _ | refine qI ?_ | refine qG ?_ _)); exact BK318.out) Try.underlying26 rfl (by kernel_rfl)) rfl ?_
      exact ⟨_, _, by first | rfl | (simp [errW_none, errW_some] <;> rfl) | (simp [*, errW_none, errW_some] <;> rfl), by first | exact Kd.R_nil _ _ _ _ _ | exact Kd.N_nil _ _ _ _ _ | exact Kd.V_nil _ _ _ _ _ | exact Kd.Q_nil _ _ _ _ _ | exact Kd.S_nil _ _ _ _ _, by first | exact Kd.R_nil _ _ _ _ _ | exact Kd.N_nil _ _ _ _ _ | exact Kd.V_nil _ _ _ _ _ | exact Kd.Q_nil _ _ _ _ _ | exact Kd.S_nil _ _ _ _ _, by repeat (first | (with_reducible first | exact HB.out | apply qF | apply qB | apply qE | refine qD ?_ GE317.out | refine qD ?_ GE318.out) | exact HB.out)⟩
    · rw [if_neg c6] at H
      have c6b0 : decide (a1 < (-1)) = false := decide_eq_false c6
      clear c6
      by_cases c13 : a2 < (-1)
      · rw [if_pos c13] at H
        have c13b0 : decide (a2 < (-1)) = true := decide_eq_true c13
        clear c13
        simp only [Option.some.injEq, Prod.mk.injEq] at H
        obtain ⟨rfl, rfl, rfl, rfl⟩ := H
        go_enter Try.func12, Try.ntmps12
        go_wp2_with (first | ((with_reducible refine zA (N := 3) rfl ?_); refine qU ?hg (N := 3) ?hd (cs := #[.slice A0_0 l0_0.length c0_0, .slice A0_1 l0_1.length c0_1, .int .i64 a0_2, .int .i64 a0_3]) (t := 26) ?hr ?_; (case hd => rfl); (case hg => rfl); (case hr => first | (go_simp; done) | (go_simp; rfl)); intro gb317 hg w14 hbox hb; have n0_ := Aside0.mk (qL (by repeat (first | (with_reducible first | exact HB.out | apply qF | apply qB | apply qE) | exact HB.out)) hb); have n1_ := Aside0.mk (hbox); have n2_ := Aside0.mk ((by rw [hg]; exact (qK (by repeat (first | (with_reducible first | exact HB.out | apply qF | apply qB | apply qE) | exact HB.out))) : w.heap.size ≤ gb317)); have n3_ := Aside0.mk ((by rw [hg]; exact (qK (by repeat (first | (with_reducible first | exact HB.out | apply qF | apply qB | apply qE) | exact HB.out))) : w.heap.size ≤ gb317)); clear HB; have HB := n0_; have BK317 := n1_; have GW317 := n2_; have GE317 := n3_; clear n0_ n1_ n2_ n3_; clear hb hbox hg) | ((with_reducible refine zA (N := 6) rfl ?_); refine qU ?hg (N := 6) ?hd (cs := #[.slice none 0 0, .slice none 0 0, .int .i64 0, .int .i64 0]) (t := 26) ?hr ?_; (case hd => rfl); (case hg => rfl); (case hr => first | (go_simp; done) | (go_simp; rfl)); intro gb318 hg w15 hbox hb; have n0_ := Aside0.mk (qJ (g := gb317) (o := .cells #[.slice A0_0 l0_0.length c0_0, .slice A0_1 l0_1.length c0_1, .int .i64 a0_2, .int .i64 a0_3] 26 (0, 0)) (bw_ BK317.out) hb); have n1_ := Aside0.mk (qL (by repeat (first | (with_reducible first | exact HB.out | apply qF | apply qB | apply qE | refine qD ?_ GE317.out) | exact HB.out)) hb); have n2_ := Aside0.mk (hbox); have n3_ := Aside0.mk ((by rw [hg]; exact (qK (by repeat (first | (with_reducible first | exact HB.out | apply qF | apply qB | apply qE | refine qD ?_ GE317.out) | exact HB.out))) : w.heap.size ≤ gb318)); have n4_ := Aside0.mk ((by rw [hg]; exact (qK (by repeat (first | (with_reducible first | exact HB.out | apply qF | apply qB | apply qE | refine qD ?_ GE317.out) | exact HB.out))) : w.heap.size ≤ gb318)); have n5_ := Aside0.mk ((by rw [hg]; exact Nat.ne_of_lt (zF (g := gb317) (o := .cells #[.slice A0_0 l0_0.length c0_0, .slice A0_1 l0_1.length c0_1, .int .i64 a0_2, .int .i64 a0_3] 26 (0, 0)) (bw_ BK317.out)) : gb317 ≠ gb318)); have n6_ := Aside0.mk ((by rw [hg]; exact Nat.ne_of_gt (zF (g := gb317) (o := .cells #[.slice A0_0 l0_0.length c0_0, .slice A0_1 l0_1.length c0_1, .int .i64 a0_2, .int .i64 a0_3] 26 (0, 0)) (bw_ BK317.out)) : gb318 ≠ gb317)); clear BK317; clear HB; have BK317 := n0_; have HB := n1_; have BK318 := n2_; have GW318 := n3_; have GE318 := n4_; have NB317_318 := n5_; have NB318_317 := n6_; clear n0_ n1_ n2_ n3_ n4_ n5_ n6_; clear hb hbox hg; have hnb16 := NB317_318.out; have hnc16 := NB318_317.out; have hcz17_0 : w15.cell? ⟨gb317, 0, none⟩ = some (.slice A0_0 l0_0.length c0_0) := (qA BK317.out 0).trans rfl; have hcz17_1 : w15.cell? ⟨gb317, 1, none⟩ = some (.slice A0_1 l0_1.length c0_1) := (qA BK317.out 1).trans rfl; have hcz17_2 : w15.cell? ⟨gb317, 2, none⟩ = some (.int .i64 a0_2) := (qA BK317.out 2).trans rfl; have hcz17_3 : w15.cell? ⟨gb317, 3, none⟩ = some (.int .i64 a0_3) := (qA BK317.out 3).trans rfl; have hfz17_0 := qC BK317.out 0; have hfz17_1 := qC BK317.out 1; have hfz17_2 := qC BK317.out 2; have hfz17_3 := qC BK317.out 3) | ((with_reducible refine qV (f := 22) rfl ?_); refine zL (some 9) rfl rfl Try.func22 (by kernel_rfl) rfl #[.agg #[.slice A0_0 l0_0.length c0_0, .slice A0_1 l0_1.length c0_1, .int .i64 a0_2, .int .i64 a0_3]] rfl (by (try simp only [List.map_toArray, List.map_cons, List.map_nil]); first | done | rfl | (simp only [List.length_drop, List.length_take]; rfl)) ?_; (with_reducible refine (impl_DiskOk.calls _ _ l0_0 _ _ l0_1 a0_2 a0_3 true _ ?side1 ?side2 ?side3 ?side4 A4.out).mono ?_); (case side1 => repeat (first | exact (Kd.zK HR0_0.out HB.out) | (with_reducible refine Kd.qX ?_ _) | (with_reducible refine Kd.qY ?_ _) | (with_reducible refine Kd.zC ?_))); (case side2 => exact HC0_0.out); (case side3 => repeat (first | exact (Kd.zK HR0_1.out HB.out) | (with_reducible refine Kd.qX ?_ _) | (with_reducible refine Kd.qY ?_ _) | (with_reducible refine Kd.zC ?_))); (case side4 => exact HC0_1.out); rintro e w18 ⟨rfl, hb⟩; refine ⟨_, rfl, ?_⟩; have n0_ := Aside0.mk (qJ (g := gb317) (o := .cells #[.slice A0_0 l0_0.length c0_0, .slice A0_1 l0_1.length c0_1, .int .i64 a0_2, .int .i64 a0_3] 26 (0, 0)) (bw_ BK317.out) hb); have n1_ := Aside0.mk (qJ (g := gb318) (o := .cells #[.slice none 0 0, .slice none 0 0, .int .i64 0, .int .i64 0] 26 (0, 0)) (bw_ BK318.out) hb); have n2_ := Aside0.mk (qL (by repeat (first | (with_reducible first | exact HB.out | apply qF | apply qB | apply qE | refine qD ?_ GE317.out | refine qD ?_ GE318.out) | exact HB.out)) hb); clear BK317; clear BK318; clear HB; have BK317 := n0_; have BK318 := n1_; have HB := n2_; clear n0_ n1_ n2_; (try clear hb); (try clear hb2); (try clear hk); (try clear hi); have hcz19_0 : w18.cell? ⟨gb318, 0, none⟩ = some (.slice none 0 0) := (qA BK318.out 0).trans rfl; have hcz19_1 : w18.cell? ⟨gb318, 1, none⟩ = some (.slice none 0 0) := (qA BK318.out 1).trans rfl; have hcz19_2 : w18.cell? ⟨gb318, 2, none⟩ = some (.int .i64 0) := (qA BK318.out 2).trans rfl; have hcz19_3 : w18.cell? ⟨gb318, 3, none⟩ = some (.int .i64 0) := (qA BK318.out 3).trans rfl; have hfz19_0 := qC BK318.out 0; have hfz19_1 := qC BK318.out 1; have hfz19_2 := qC BK318.out 2; have hfz19_3 := qC BK318.out 3))
        refine bodyPost_ret (results_cell_row rfl _ _ gb318 26 #[.slice none 0 0, .slice none 0 0, .int .i64 0, .int .i64 0] (0, 0) _ rfl (by (with_reducible repeat (first | refine qH ?_ _ | refine qI ?_ | refine qG ?_ _)); refine qO (cs := #[.slice none 0 0, .slice none 0 0, .int .i64 0, .int .i64 0]) ?_ 3 _ rfl; (with_reducible repeat (first | refine qH ?_ _ | refine qI ?_ | refine qG ?_ _)); refine qO (cs := #[.slice none 0 0, .slice none 0 0, .int .i64 0, .int .i64 0]) ?_ 2 _ rfl; (with_reducible repeat (first | refine qH ?_ _ | refine qI ?_ | refine qG ?_ _)); refine qO (cs := #[.slice none 0 0, .slice none 0 0, .int .i64 0, .int .i64 0]) ?_ 1 _ rfl; (with_reducible repeat (first | refine qH ?_ _ | refine qI ?_ | refine qG ?_ _)); refine qO (cs := #[.slice none 0 0, .slice none 0 0, .int .i64 0, .int .i64 0]) ?_ 0 _ rfl; (with_reducible repeat (first | refine qH ?_ _ | refine qI ?_ | refine qG ?_ _)); exact BK318.out) Try.underlying26 rfl (by kernel_rfl)) rfl ?_
        exact ⟨_, _, by first | rfl | (simp [errW_none, errW_some] <;> rfl) | (simp [*, errW_none, errW_some] <;> rfl), by first | exact Kd.R_nil _ _ _ _ _ | exact Kd.N_nil _ _ _ _ _ | exact Kd.V_nil _ _ _ _ _ | exact Kd.Q_nil _ _ _ _ _ | exact Kd.S_nil _ _ _ _ _, by first | exact Kd.R_nil _ _ _ _ _ | exact Kd.N_nil _ _ _ _ _ | exact Kd.V_nil _ _ _ _ _ | exact Kd.Q_nil _ _ _ _ _ | exact Kd.S_nil _ _ _ _ _, by repeat (first | (with_reducible first | exact HB.out | apply qF | apply qB | apply qE | refine qD ?_ GE317.out | refine qD ?_ GE318.out) | exact HB.out)⟩
      · rw [if_neg c13] at H
        have c13b0 : decide (a2 < (-1)) = false := decide_eq_false c13
        clear c13
        replace H := Option.bind_eq_some_iff.mp H
        obtain ⟨⟨t320, t323, t326, t327⟩, A200, H⟩ := H
        replace H : (some (t320, t323, a1, a2)) = some (r1, r2, r3, r4) := H
        have A20 := Aside0.mk A200
        clear A200
        simp only [Option.some.injEq, Prod.mk.injEq] at H
        obtain ⟨rfl, rfl, rfl, rfl⟩ := H
        go_enter Try.func12, Try.ntmps12
        go_wp2_with (first | ((with_reducible refine zA (N := 3) rfl ?_); refine qU ?hg (N := 3) ?hd (cs := #[.slice A0_0 l0_0.length c0_0, .slice A0_1 l0_1.length c0_1, .int .i64 a0_2, .int .i64 a0_3]) (t := 26) ?hr ?_; (case hd => rfl); (case hg => rfl); (case hr => first | (go_simp; done) | (go_simp; rfl)); intro gb317 hg w21 hbox hb; have n0_ := Aside0.mk (qL (by repeat (first | (with_reducible first | exact HB.out | apply qF | apply qB | apply qE) | exact HB.out)) hb); have n1_ := Aside0.mk (hbox); have n2_ := Aside0.mk ((by rw [hg]; exact (qK (by repeat (first | (with_reducible first | exact HB.out | apply qF | apply qB | apply qE) | exact HB.out))) : w.heap.size ≤ gb317)); have n3_ := Aside0.mk ((by rw [hg]; exact (qK (by repeat (first | (with_reducible first | exact HB.out | apply qF | apply qB | apply qE) | exact HB.out))) : w.heap.size ≤ gb317)); clear HB; have HB := n0_; have BK317 := n1_; have GW317 := n2_; have GE317 := n3_; clear n0_ n1_ n2_ n3_; clear hb hbox hg) | ((with_reducible refine zA (N := 6) rfl ?_); refine qU ?hg (N := 6) ?hd (cs := #[.slice none 0 0, .slice none 0 0, .int .i64 0, .int .i64 0]) (t := 26) ?hr ?_; (case hd => rfl); (case hg => rfl); (case hr => first | (go_simp; done) | (go_simp; rfl)); intro gb318 hg w22 hbox hb; have n0_ := Aside0.mk (qJ (g := gb317) (o := .cells #[.slice A0_0 l0_0.length c0_0, .slice A0_1 l0_1.length c0_1, .int .i64 a0_2, .int .i64 a0_3] 26 (0, 0)) (bw_ BK317.out) hb); have n1_ := Aside0.mk (qL (by repeat (first | (with_reducible first | exact HB.out | apply qF | apply qB | apply qE | refine qD ?_ GE317.out) | exact HB.out)) hb); have n2_ := Aside0.mk (hbox); have n3_ := Aside0.mk ((by rw [hg]; exact (qK (by repeat (first | (with_reducible first | exact HB.out | apply qF | apply qB | apply qE | refine qD ?_ GE317.out) | exact HB.out))) : w.heap.size ≤ gb318)); have n4_ := Aside0.mk ((by rw [hg]; exact (qK (by repeat (first | (with_reducible first | exact HB.out | apply qF | apply qB | apply qE | refine qD ?_ GE317.out) | exact HB.out))) : w.heap.size ≤ gb318)); have n5_ := Aside0.mk ((by rw [hg]; exact Nat.ne_of_lt (zF (g := gb317) (o := .cells #[.slice A0_0 l0_0.length c0_0, .slice A0_1 l0_1.length c0_1, .int .i64 a0_2, .int .i64 a0_3] 26 (0, 0)) (bw_ BK317.out)) : gb317 ≠ gb318)); have n6_ := Aside0.mk ((by rw [hg]; exact Nat.ne_of_gt (zF (g := gb317) (o := .cells #[.slice A0_0 l0_0.length c0_0, .slice A0_1 l0_1.length c0_1, .int .i64 a0_2, .int .i64 a0_3] 26 (0, 0)) (bw_ BK317.out)) : gb318 ≠ gb317)); clear BK317; clear HB; have BK317 := n0_; have HB := n1_; have BK318 := n2_; have GW318 := n3_; have GE318 := n4_; have NB317_318 := n5_; have NB318_317 := n6_; clear n0_ n1_ n2_ n3_ n4_ n5_ n6_; clear hb hbox hg; have hnb23 := NB317_318.out; have hnc23 := NB318_317.out; have hcz24_0 : w22.cell? ⟨gb317, 0, none⟩ = some (.slice A0_0 l0_0.length c0_0) := (qA BK317.out 0).trans rfl; have hcz24_1 : w22.cell? ⟨gb317, 1, none⟩ = some (.slice A0_1 l0_1.length c0_1) := (qA BK317.out 1).trans rfl; have hcz24_2 : w22.cell? ⟨gb317, 2, none⟩ = some (.int .i64 a0_2) := (qA BK317.out 2).trans rfl; have hcz24_3 : w22.cell? ⟨gb317, 3, none⟩ = some (.int .i64 a0_3) := (qA BK317.out 3).trans rfl; have hfz24_0 := qC BK317.out 0; have hfz24_1 := qC BK317.out 1; have hfz24_2 := qC BK317.out 2; have hfz24_3 := qC BK317.out 3) | ((with_reducible refine qV (f := 22) rfl ?_); refine zL (some 9) rfl rfl Try.func22 (by kernel_rfl) rfl #[.agg #[.slice A0_0 l0_0.length c0_0, .slice A0_1 l0_1.length c0_1, .int .i64 a0_2, .int .i64 a0_3]] rfl (by (try simp only [List.map_toArray, List.map_cons, List.map_nil]); first | done | rfl | (simp only [List.length_drop, List.length_take]; rfl)) ?_; (with_reducible refine (impl_DiskOk.calls _ _ l0_0 _ _ l0_1 a0_2 a0_3 true _ ?side1 ?side2 ?side3 ?side4 A4.out).mono ?_); (case side1 => repeat (first | exact (Kd.zK HR0_0.out HB.out) | (with_reducible refine Kd.qX ?_ _) | (with_reducible refine Kd.qY ?_ _) | (with_reducible refine Kd.zC ?_))); (case side2 => exact HC0_0.out); (case side3 => repeat (first | exact (Kd.zK HR0_1.out HB.out) | (with_reducible refine Kd.qX ?_ _) | (with_reducible refine Kd.qY ?_ _) | (with_reducible refine Kd.zC ?_))); (case side4 => exact HC0_1.out); rintro e w25 ⟨rfl, hb⟩; refine ⟨_, rfl, ?_⟩; have n0_ := Aside0.mk (qJ (g := gb317) (o := .cells #[.slice A0_0 l0_0.length c0_0, .slice A0_1 l0_1.length c0_1, .int .i64 a0_2, .int .i64 a0_3] 26 (0, 0)) (bw_ BK317.out) hb); have n1_ := Aside0.mk (qJ (g := gb318) (o := .cells #[.slice none 0 0, .slice none 0 0, .int .i64 0, .int .i64 0] 26 (0, 0)) (bw_ BK318.out) hb); have n2_ := Aside0.mk (qL (by repeat (first | (with_reducible first | exact HB.out | apply qF | apply qB | apply qE | refine qD ?_ GE317.out | refine qD ?_ GE318.out) | exact HB.out)) hb); clear BK317; clear BK318; clear HB; have BK317 := n0_; have BK318 := n1_; have HB := n2_; clear n0_ n1_ n2_; (try clear hb); (try clear hb2); (try clear hk); (try clear hi); have hcz26_0 : w25.cell? ⟨gb317, 0, none⟩ = some (.slice A0_0 l0_0.length c0_0) := (qA BK317.out 0).trans rfl; have hcz26_1 : w25.cell? ⟨gb317, 1, none⟩ = some (.slice A0_1 l0_1.length c0_1) := (qA BK317.out 1).trans rfl; have hcz26_2 : w25.cell? ⟨gb317, 2, none⟩ = some (.int .i64 a0_2) := (qA BK317.out 2).trans rfl; have hcz26_3 : w25.cell? ⟨gb317, 3, none⟩ = some (.int .i64 a0_3) := (qA BK317.out 3).trans rfl; have hfz26_0 := qC BK317.out 0; have hfz26_1 := qC BK317.out 1; have hfz26_2 := qC BK317.out 2; have hfz26_3 := qC BK317.out 3) | ((with_reducible refine qV (f := 35) rfl ?_); refine zL (some 21) rfl rfl Try.func35 (by kernel_rfl) rfl #[.agg #[.slice A0_0 l0_0.length c0_0, .slice A0_1 l0_1.length c0_1, .int .i64 a0_2, .int .i64 a0_3]] rfl (by (try simp only [List.map_toArray, List.map_cons, List.map_nil]); first | done | rfl | (simp only [List.length_drop, List.length_take]; rfl)) ?_; (with_reducible refine (impl_Disk_copyOf.calls _ _ l0_0 _ _ l0_1 a0_2 a0_3 t320 t323 t326 t327 _ ?side1 ?side2 ?side3 ?side4 A20.out).mono ?_); (case side1 => repeat (first | exact (Kd.zK HR0_0.out HB.out) | (with_reducible refine Kd.qX ?_ _) | (with_reducible refine Kd.qY ?_ _) | (with_reducible refine Kd.zC ?_))); (case side2 => exact HC0_0.out); (case side3 => repeat (first | exact (Kd.zK HR0_1.out HB.out) | (with_reducible refine Kd.qX ?_ _) | (with_reducible refine Kd.qY ?_ _) | (with_reducible refine Kd.zC ?_))); (case side4 => exact HC0_1.out); rintro e w27 ⟨v321, v324, rfl, ho0, ho1, hb⟩; refine ⟨_, rfl, ?_⟩; have n0_ := Aside0.mk (Kd.zJ ho0 (qK (by repeat (first | (with_reducible first | exact HB.out | apply qF | apply qB | apply qE | refine qD ?_ GE317.out | refine qD ?_ GE318.out) | exact HB.out)))); have n1_ := Aside0.mk (Kd.zJ ho1 (qK (by repeat (first | (with_reducible first | exact HB.out | apply qF | apply qB | apply qE | refine qD ?_ GE317.out | refine qD ?_ GE318.out) | exact HB.out)))); have n2_ := Aside0.mk (qJ (g := gb317) (o := .cells #[.slice A0_0 l0_0.length c0_0, .slice A0_1 l0_1.length c0_1, .int .i64 a0_2, .int .i64 a0_3] 26 (0, 0)) (bw_ BK317.out) hb); have n3_ := Aside0.mk (qJ (g := gb318) (o := .cells #[.slice none 0 0, .slice none 0 0, .int .i64 0, .int .i64 0] 26 (0, 0)) (bw_ BK318.out) hb); have n4_ := Aside0.mk (qL (by repeat (first | (with_reducible first | exact HB.out | apply qF | apply qB | apply qE | refine qD ?_ GE317.out | refine qD ?_ GE318.out) | exact HB.out)) hb); clear BK317; clear BK318; clear HB; have HO322 := n0_; have HO325 := n1_; have BK317 := n2_; have BK318 := n3_; have HB := n4_; clear n0_ n1_ n2_ n3_ n4_; (try clear hb); (try clear hb2); (try clear hk); (try clear hi); (try clear ho0); (try clear ho1)) | ((with_reducible refine zA (N := 7) rfl ?_); refine qU ?hg (N := 7) ?hd (cs := #[.slice none 0 0, .slice none 0 0, .int .i64 0, .int .i64 0]) (t := 26) ?hr ?_; (case hd => rfl); (case hg => rfl); (case hr => first | (go_simp; done) | (go_simp; rfl)); intro gb328 hg w28 hbox hb; have n0_ := Aside0.mk (Kd.qZ (rw_ HO322.out) hb); have n1_ := Aside0.mk (Kd.qZ (rw_ HO325.out) hb); have n2_ := Aside0.mk (qJ (g := gb317) (o := .cells #[.slice A0_0 l0_0.length c0_0, .slice A0_1 l0_1.length c0_1, .int .i64 a0_2, .int .i64 a0_3] 26 (0, 0)) (bw_ BK317.out) hb); have n3_ := Aside0.mk (qJ (g := gb318) (o := .cells #[.slice none 0 0, .slice none 0 0, .int .i64 0, .int .i64 0] 26 (0, 0)) (bw_ BK318.out) hb); have n4_ := Aside0.mk (qL (by repeat (first | (with_reducible first | exact HB.out | apply qF | apply qB | apply qE | refine qD ?_ GE317.out | refine qD ?_ GE318.out) | exact HB.out)) hb); have n5_ := Aside0.mk (hbox); have n6_ := Aside0.mk ((by rw [hg]; exact (qK (by repeat (first | (with_reducible first | exact HB.out | apply qF | apply qB | apply qE | refine qD ?_ GE317.out | refine qD ?_ GE318.out) | exact HB.out))) : w.heap.size ≤ gb328)); have n7_ := Aside0.mk ((by rw [hg]; exact (qK (by repeat (first | (with_reducible first | exact HB.out | apply qF | apply qB | apply qE | refine qD ?_ GE317.out | refine qD ?_ GE318.out) | exact HB.out))) : w.heap.size ≤ gb328)); have n8_ := Aside0.mk ((by rw [hg]; exact Nat.ne_of_lt (zF (g := gb317) (o := .cells #[.slice A0_0 l0_0.length c0_0, .slice A0_1 l0_1.length c0_1, .int .i64 a0_2, .int .i64 a0_3] 26 (0, 0)) (bw_ BK317.out)) : gb317 ≠ gb328)); have n9_ := Aside0.mk ((by rw [hg]; exact Nat.ne_of_gt (zF (g := gb317) (o := .cells #[.slice A0_0 l0_0.length c0_0, .slice A0_1 l0_1.length c0_1, .int .i64 a0_2, .int .i64 a0_3] 26 (0, 0)) (bw_ BK317.out)) : gb328 ≠ gb317)); have n10_ := Aside0.mk ((by rw [hg]; exact Nat.ne_of_lt (zF (g := gb318) (o := .cells #[.slice none 0 0, .slice none 0 0, .int .i64 0, .int .i64 0] 26 (0, 0)) (bw_ BK318.out)) : gb318 ≠ gb328)); have n11_ := Aside0.mk ((by rw [hg]; exact Nat.ne_of_gt (zF (g := gb318) (o := .cells #[.slice none 0 0, .slice none 0 0, .int .i64 0, .int .i64 0] 26 (0, 0)) (bw_ BK318.out)) : gb328 ≠ gb318)); clear HO322; clear HO325; clear BK317; clear BK318; clear HB; have HO322 := n0_; have HO325 := n1_; have BK317 := n2_; have BK318 := n3_; have HB := n4_; have BK328 := n5_; have GW328 := n6_; have GE328 := n7_; have NB317_328 := n8_; have NB328_317 := n9_; have NB318_328 := n10_; have NB328_318 := n11_; clear n0_ n1_ n2_ n3_ n4_ n5_ n6_ n7_ n8_ n9_ n10_ n11_; clear hb hbox hg; obtain ⟨Ao29, co29, eo29⟩ := Kd.zE HO322.out; subst eo29; have hnb30 := NB328_317.out; have hnc30 := NB317_328.out; have hnb31 := NB328_318.out; have hnc31 := NB318_328.out; have hcz32_0 : w28.cell? ⟨gb328, 0, none⟩ = some (.slice none 0 0) := (qA BK328.out 0).trans rfl; have hcz32_1 : w28.cell? ⟨gb328, 1, none⟩ = some (.slice none 0 0) := (qA BK328.out 1).trans rfl; have hcz32_2 : w28.cell? ⟨gb328, 2, none⟩ = some (.int .i64 0) := (qA BK328.out 2).trans rfl; have hcz32_3 : w28.cell? ⟨gb328, 3, none⟩ = some (.int .i64 0) := (qA BK328.out 3).trans rfl; have hfz32_0 := qC BK328.out 0; have hfz32_1 := qC BK328.out 1; have hfz32_2 := qC BK328.out 2; have hfz32_3 := qC BK328.out 3; obtain ⟨Ao33, co33, eo33⟩ := Kd.zE HO325.out; subst eo33; have hcz34_0 : w28.cell? ⟨gb318, 0, none⟩ = some (.slice none 0 0) := (qA BK318.out 0).trans rfl; have hcz34_1 : w28.cell? ⟨gb318, 1, none⟩ = some (.slice none 0 0) := (qA BK318.out 1).trans rfl; have hcz34_2 : w28.cell? ⟨gb318, 2, none⟩ = some (.int .i64 0) := (qA BK318.out 2).trans rfl; have hcz34_3 : w28.cell? ⟨gb318, 3, none⟩ = some (.int .i64 0) := (qA BK318.out 3).trans rfl; have hfz34_0 := qC BK318.out 0; have hfz34_1 := qC BK318.out 1; have hfz34_2 := qC BK318.out 2; have hfz34_3 := qC BK318.out 3))
        refine bodyPost_ret (results_cell_row rfl _ _ gb318 26 #[.slice Ao29 t320.length co29, .slice Ao33 t323.length co33, .int .i64 a1, .int .i64 a2] (0, 0) _ rfl (by (with_reducible repeat (first | refine qH ?_ _ | refine qI ?_ | refine qG ?_ _)); refine qO (cs := #[.slice Ao29 t320.length co29, .slice Ao33 t323.length co33, .int .i64 a1, .int .i64 0]) ?_ 3 _ rfl; (with_reducible repeat (first | refine qH ?_ _ | refine qI ?_ | refine qG ?_ _)); refine qO (cs := #[.slice Ao29 t320.length co29, .slice Ao33 t323.length co33, .int .i64 0, .int .i64 0]) ?_ 2 _ rfl; (with_reducible repeat (first | refine qH ?_ _ | refine qI ?_ | refine qG ?_ _)); refine qO (cs := #[.slice Ao29 t320.length co29, .slice none 0 0, .int .i64 0, .int .i64 0]) ?_ 1 _ rfl; (with_reducible repeat (first | refine qH ?_ _ | refine qI ?_ | refine qG ?_ _)); refine qO (cs := #[.slice none 0 0, .slice none 0 0, .int .i64 0, .int .i64 0]) ?_ 0 _ rfl; (with_reducible repeat (first | refine qH ?_ _ | refine qI ?_ | refine qG ?_ _)); refine qR ?_ NB318_328.out _; (with_reducible repeat (first | refine qH ?_ _ | refine qI ?_ | refine qG ?_ _)); refine qR ?_ NB318_328.out _; (with_reducible repeat (first | refine qH ?_ _ | refine qI ?_ | refine qG ?_ _)); refine qR ?_ NB318_328.out _; (with_reducible repeat (first | refine qH ?_ _ | refine qI ?_ | refine qG ?_ _)); refine qR ?_ NB318_328.out _; (with_reducible repeat (first | refine qH ?_ _ | refine qI ?_ | refine qG ?_ _)); refine qR ?_ NB318_328.out _; (with_reducible repeat (first | refine qH ?_ _ | refine qI ?_ | refine qG ?_ _)); refine qR ?_ NB318_328.out _; (with_reducible repeat (first | refine qH ?_ _ | refine qI ?_ | refine qG ?_ _)); exact BK318.out) Try.underlying26 rfl (by kernel_rfl)) rfl ?_
        exact ⟨_, _, by first | rfl | (simp [errW_none, errW_some] <;> rfl) | (simp [*, errW_none, errW_some] <;> rfl), by (with_reducible repeat (first | apply Kd.zI | apply Kd.zH | apply Kd.zD)); exact Kd.qS (Kd.R_far (p := ⟨gb318, 3, none⟩) (Kd.R_far (p := ⟨gb318, 2, none⟩) (Kd.R_far (p := ⟨gb318, 1, none⟩) (Kd.R_far (p := ⟨gb318, 0, none⟩) (Kd.R_far (p := ⟨gb328, 3, none⟩) (Kd.R_far (p := ⟨gb328, 2, none⟩) (Kd.R_far (p := ⟨gb328, 3, none⟩) (Kd.R_far (p := ⟨gb328, 2, none⟩) (Kd.R_far (p := ⟨gb328, 1, none⟩) (Kd.R_far (p := ⟨gb328, 0, none⟩) (Kd.qW (Kd.qW HO322.out BK328.out (by decide)) BK318.out (by decide)) (fun _ hk => hk.1.2) (.slice Ao29 t320.length co29)) (fun _ hk => hk.1.2) (.slice Ao33 t323.length co33)) (fun _ hk => hk.1.2) (.int .i64 t326)) (fun _ hk => hk.1.2) (.int .i64 t327)) (fun _ hk => hk.1.2) (.int .i64 a1)) (fun _ hk => hk.1.2) (.int .i64 a2)) (fun _ hk => hk.2) (.slice Ao29 t320.length co29)) (fun _ hk => hk.2) (.slice Ao33 t323.length co33)) (fun _ hk => hk.2) (.int .i64 a1)) (fun _ hk => hk.2) (.int .i64 a2)) (fun _ hk => trivial), by (with_reducible repeat (first | apply Kd.zI | apply Kd.zH | apply Kd.zD)); exact Kd.qS (Kd.R_far (p := ⟨gb318, 3, none⟩) (Kd.R_far (p := ⟨gb318, 2, none⟩) (Kd.R_far (p := ⟨gb318, 1, none⟩) (Kd.R_far (p := ⟨gb318, 0, none⟩) (Kd.R_far (p := ⟨gb328, 3, none⟩) (Kd.R_far (p := ⟨gb328, 2, none⟩) (Kd.R_far (p := ⟨gb328, 3, none⟩) (Kd.R_far (p := ⟨gb328, 2, none⟩) (Kd.R_far (p := ⟨gb328, 1, none⟩) (Kd.R_far (p := ⟨gb328, 0, none⟩) (Kd.qW (Kd.qW HO325.out BK328.out (by decide)) BK318.out (by decide)) (fun _ hk => hk.1.2) (.slice Ao29 t320.length co29)) (fun _ hk => hk.1.2) (.slice Ao33 t323.length co33)) (fun _ hk => hk.1.2) (.int .i64 t326)) (fun _ hk => hk.1.2) (.int .i64 t327)) (fun _ hk => hk.1.2) (.int .i64 a1)) (fun _ hk => hk.1.2) (.int .i64 a2)) (fun _ hk => hk.2) (.slice Ao29 t320.length co29)) (fun _ hk => hk.2) (.slice Ao33 t323.length co33)) (fun _ hk => hk.2) (.int .i64 a1)) (fun _ hk => hk.2) (.int .i64 a2)) (fun _ hk => trivial), by repeat (first | (with_reducible first | exact HB.out | apply qF | apply qB | apply qE | refine qD ?_ GE317.out | refine qD ?_ GE318.out | refine qD ?_ GE328.out) | exact HB.out)⟩
  · replace c5 := Bool.eq_false_iff.mpr c5
    subst c5
    have H1 : (some (([] : List ByteArray), ([] : List (S70)), 0, 0)) = some (r1, r2, r3, r4) := by rw [if_neg (show ¬ (false = true) by decide)] at H; exact H
    clear H
    have H := H1
    clear H1
    simp only [Option.some.injEq, Prod.mk.injEq] at H
    obtain ⟨rfl, rfl, rfl, rfl⟩ := H
    go_enter Try.func12, Try.ntmps12
    go_wp2_with (first | ((with_reducible refine zA (N := 3) rfl ?_); refine qU ?hg (N := 3) ?hd (cs := #[.slice A0_0 l0_0.length c0_0, .slice A0_1 l0_1.length c0_1, .int .i64 a0_2, .int .i64 a0_3]) (t := 26) ?hr ?_; (case hd => rfl); (case hg => rfl); (case hr => first | (go_simp; done) | (go_simp; rfl)); intro gb317 hg w35 hbox hb; have n0_ := Aside0.mk (qL (by repeat (first | (with_reducible first | exact HB.out | apply qF | apply qB | apply qE) | exact HB.out)) hb); have n1_ := Aside0.mk (hbox); have n2_ := Aside0.mk ((by rw [hg]; exact (qK (by repeat (first | (with_reducible first | exact HB.out | apply qF | apply qB | apply qE) | exact HB.out))) : w.heap.size ≤ gb317)); have n3_ := Aside0.mk ((by rw [hg]; exact (qK (by repeat (first | (with_reducible first | exact HB.out | apply qF | apply qB | apply qE) | exact HB.out))) : w.heap.size ≤ gb317)); clear HB; have HB := n0_; have BK317 := n1_; have GW317 := n2_; have GE317 := n3_; clear n0_ n1_ n2_ n3_; clear hb hbox hg) | ((with_reducible refine zA (N := 6) rfl ?_); refine qU ?hg (N := 6) ?hd (cs := #[.slice none 0 0, .slice none 0 0, .int .i64 0, .int .i64 0]) (t := 26) ?hr ?_; (case hd => rfl); (case hg => rfl); (case hr => first | (go_simp; done) | (go_simp; rfl)); intro gb318 hg w36 hbox hb; have n0_ := Aside0.mk (qJ (g := gb317) (o := .cells #[.slice A0_0 l0_0.length c0_0, .slice A0_1 l0_1.length c0_1, .int .i64 a0_2, .int .i64 a0_3] 26 (0, 0)) (bw_ BK317.out) hb); have n1_ := Aside0.mk (qL (by repeat (first | (with_reducible first | exact HB.out | apply qF | apply qB | apply qE | refine qD ?_ GE317.out) | exact HB.out)) hb); have n2_ := Aside0.mk (hbox); have n3_ := Aside0.mk ((by rw [hg]; exact (qK (by repeat (first | (with_reducible first | exact HB.out | apply qF | apply qB | apply qE | refine qD ?_ GE317.out) | exact HB.out))) : w.heap.size ≤ gb318)); have n4_ := Aside0.mk ((by rw [hg]; exact (qK (by repeat (first | (with_reducible first | exact HB.out | apply qF | apply qB | apply qE | refine qD ?_ GE317.out) | exact HB.out))) : w.heap.size ≤ gb318)); have n5_ := Aside0.mk ((by rw [hg]; exact Nat.ne_of_lt (zF (g := gb317) (o := .cells #[.slice A0_0 l0_0.length c0_0, .slice A0_1 l0_1.length c0_1, .int .i64 a0_2, .int .i64 a0_3] 26 (0, 0)) (bw_ BK317.out)) : gb317 ≠ gb318)); have n6_ := Aside0.mk ((by rw [hg]; exact Nat.ne_of_gt (zF (g := gb317) (o := .cells #[.slice A0_0 l0_0.length c0_0, .slice A0_1 l0_1.length c0_1, .int .i64 a0_2, .int .i64 a0_3] 26 (0, 0)) (bw_ BK317.out)) : gb318 ≠ gb317)); clear BK317; clear HB; have BK317 := n0_; have HB := n1_; have BK318 := n2_; have GW318 := n3_; have GE318 := n4_; have NB317_318 := n5_; have NB318_317 := n6_; clear n0_ n1_ n2_ n3_ n4_ n5_ n6_; clear hb hbox hg; have hnb37 := NB317_318.out; have hnc37 := NB318_317.out; have hcz38_0 : w36.cell? ⟨gb317, 0, none⟩ = some (.slice A0_0 l0_0.length c0_0) := (qA BK317.out 0).trans rfl; have hcz38_1 : w36.cell? ⟨gb317, 1, none⟩ = some (.slice A0_1 l0_1.length c0_1) := (qA BK317.out 1).trans rfl; have hcz38_2 : w36.cell? ⟨gb317, 2, none⟩ = some (.int .i64 a0_2) := (qA BK317.out 2).trans rfl; have hcz38_3 : w36.cell? ⟨gb317, 3, none⟩ = some (.int .i64 a0_3) := (qA BK317.out 3).trans rfl; have hfz38_0 := qC BK317.out 0; have hfz38_1 := qC BK317.out 1; have hfz38_2 := qC BK317.out 2; have hfz38_3 := qC BK317.out 3) | ((with_reducible refine qV (f := 22) rfl ?_); refine zL (some 9) rfl rfl Try.func22 (by kernel_rfl) rfl #[.agg #[.slice A0_0 l0_0.length c0_0, .slice A0_1 l0_1.length c0_1, .int .i64 a0_2, .int .i64 a0_3]] rfl (by (try simp only [List.map_toArray, List.map_cons, List.map_nil]); first | done | rfl | (simp only [List.length_drop, List.length_take]; rfl)) ?_; (with_reducible refine (impl_DiskOk.calls _ _ l0_0 _ _ l0_1 a0_2 a0_3 false _ ?side1 ?side2 ?side3 ?side4 A4.out).mono ?_); (case side1 => repeat (first | exact (Kd.zK HR0_0.out HB.out) | (with_reducible refine Kd.qX ?_ _) | (with_reducible refine Kd.qY ?_ _) | (with_reducible refine Kd.zC ?_))); (case side2 => exact HC0_0.out); (case side3 => repeat (first | exact (Kd.zK HR0_1.out HB.out) | (with_reducible refine Kd.qX ?_ _) | (with_reducible refine Kd.qY ?_ _) | (with_reducible refine Kd.zC ?_))); (case side4 => exact HC0_1.out); rintro e w39 ⟨rfl, hb⟩; refine ⟨_, rfl, ?_⟩; have n0_ := Aside0.mk (qJ (g := gb317) (o := .cells #[.slice A0_0 l0_0.length c0_0, .slice A0_1 l0_1.length c0_1, .int .i64 a0_2, .int .i64 a0_3] 26 (0, 0)) (bw_ BK317.out) hb); have n1_ := Aside0.mk (qJ (g := gb318) (o := .cells #[.slice none 0 0, .slice none 0 0, .int .i64 0, .int .i64 0] 26 (0, 0)) (bw_ BK318.out) hb); have n2_ := Aside0.mk (qL (by repeat (first | (with_reducible first | exact HB.out | apply qF | apply qB | apply qE | refine qD ?_ GE317.out | refine qD ?_ GE318.out) | exact HB.out)) hb); clear BK317; clear BK318; clear HB; have BK317 := n0_; have BK318 := n1_; have HB := n2_; clear n0_ n1_ n2_; (try clear hb); (try clear hb2); (try clear hk); (try clear hi); have hcz40_0 : w39.cell? ⟨gb318, 0, none⟩ = some (.slice none 0 0) := (qA BK318.out 0).trans rfl; have hcz40_1 : w39.cell? ⟨gb318, 1, none⟩ = some (.slice none 0 0) := (qA BK318.out 1).trans rfl; have hcz40_2 : w39.cell? ⟨gb318, 2, none⟩ = some (.int .i64 0) := (qA BK318.out 2).trans rfl; have hcz40_3 : w39.cell? ⟨gb318, 3, none⟩ = some (.int .i64 0) := (qA BK318.out 3).trans rfl; have hfz40_0 := qC BK318.out 0; have hfz40_1 := qC BK318.out 1; have hfz40_2 := qC BK318.out 2; have hfz40_3 := qC BK318.out 3))
    refine bodyPost_ret (results_cell_row rfl _ _ gb318 26 #[.slice none 0 0, .slice none 0 0, .int .i64 0, .int .i64 0] (0, 0) _ rfl (by (with_reducible repeat (first | refine qH ?_ _ | refine qI ?_ | refine qG ?_ _)); refine qO (cs := #[.slice none 0 0, .slice none 0 0, .int .i64 0, .int .i64 0]) ?_ 3 _ rfl; (with_reducible repeat (first | refine qH ?_ _ | refine qI ?_ | refine qG ?_ _)); refine qO (cs := #[.slice none 0 0, .slice none 0 0, .int .i64 0, .int .i64 0]) ?_ 2 _ rfl; (with_reducible repeat (first | refine qH ?_ _ | refine qI ?_ | refine qG ?_ _)); refine qO (cs := #[.slice none 0 0, .slice none 0 0, .int .i64 0, .int .i64 0]) ?_ 1 _ rfl; (with_reducible repeat (first | refine qH ?_ _ | refine qI ?_ | refine qG ?_ _)); refine qO (cs := #[.slice none 0 0, .slice none 0 0, .int .i64 0, .int .i64 0]) ?_ 0 _ rfl; (with_reducible repeat (first | refine qH ?_ _ | refine qI ?_ | refine qG ?_ _)); exact BK318.out) Try.underlying26 rfl (by kernel_rfl)) rfl ?_
    exact ⟨_, _, by first | rfl | (simp [errW_none, errW_some] <;> rfl) | (simp [*, errW_none, errW_some] <;> rfl), by first | exact Kd.R_nil _ _ _ _ _ | exact Kd.N_nil _ _ _ _ _ | exact Kd.V_nil _ _ _ _ _ | exact Kd.Q_nil _ _ _ _ _ | exact Kd.S_nil _ _ _ _ _, by first | exact Kd.R_nil _ _ _ _ _ | exact Kd.N_nil _ _ _ _ _ | exact Kd.V_nil _ _ _ _ _ | exact Kd.Q_nil _ _ _ _ _ | exact Kd.S_nil _ _ _ _ _, by repeat (first | (with_reducible first | exact HB.out | apply qF | apply qB | apply qE | refine qD ?_ GE317.out | refine qD ?_ GE318.out) | exact HB.out)⟩

/-! ### laws_jtTexts: function 19 -/
def laws_jtTexts.l0 : Nat → List ByteArray → List ByteArray → Int → Option (Bool)
  | 0, _, _, _ => none
  | k + 1, x0, x1, x5 => if x5 < (x0.length : Int) then (if 0 ≤ x5 then (if x5 < (x1.length : Int) then (if (rdOf ByteArray.empty x0 x5).toList = (rdOf ByteArray.empty x1 x5).toList then (laws_jtTexts.l0 k x0 x1 (wrap64 (x5 + 1))) else (some false)) else (none)) else (none)) else (some true)
def laws_jtTexts.f (k : Nat) (l0 : List ByteArray) (l1 : List ByteArray) : Option (Bool) := if (l0.length : Int) = (l1.length : Int) then (laws_jtTexts.l0 k l0 l1 0) else (some false)
theorem laws_jtTexts.mono_l : ∀ k, (∀ y0 y1 y2, LeO (laws_jtTexts.l0 k y0 y1 y2) (laws_jtTexts.l0 (k + 1) y0 y1 y2))
  | 0 => fun _ _ _ r h => by simp [laws_jtTexts.l0] at h
  | k + 1 => by
    have ih0 := laws_jtTexts.mono_l k
    · intro y0 y1 y2
      unfold laws_jtTexts.l0
      repeat' first
      | (with_reducible exact ih0 _ _ _)
      | (with_reducible exact LeO.refl _)
      | (with_reducible exact LeO.none _)
      | (with_reducible refine LeO.ite ?_ ?_)
      | (with_reducible refine LeO.bind ?_ (fun _ => ?_))
      | exact ih0 _ _ _
      | exact LeO.none _
      | refine LeO.ite ?_ ?_
      | refine LeO.bind ?_ (fun _ => ?_)
theorem laws_jtTexts.mono : ∀ a0 a1 k, LeO (laws_jtTexts.f k a0 a1) (laws_jtTexts.f (k + 1) a0 a1) := by
  intro a0 a1 k
  have ih0 := laws_jtTexts.mono_l k
  unfold laws_jtTexts.f
  repeat' first
      | (with_reducible exact ih0 _ _ _)
      | (with_reducible exact LeO.refl _)
      | (with_reducible exact LeO.none _)
      | (with_reducible refine LeO.ite ?_ ?_)
      | (with_reducible refine LeO.bind ?_ (fun _ => ?_))
      | exact ih0 _ _ _
      | exact LeO.none _
      | refine LeO.ite ?_ ?_
      | refine LeO.bind ?_ (fun _ => ?_)
set_option maxHeartbeats 8000000 in
set_option maxRecDepth 100000 in
theorem laws_jtTexts.calls (k : Nat) (A0 : Option Addr) (c0 : Nat) (l0 : List ByteArray) (A1 : Option Addr) (c1 : Nat) (l1 : List ByteArray) (r : Bool) (w : World) (hr0 : Kd.C Kd.string w A0 l0.length l0) (hc0 : l0.length ≤ c0) (hr1 : Kd.C Kd.string w A1 l1.length l1) (hc1 : l1.length ≤ c1) (h : laws_jtTexts.f k l0 l1 = some r) :
    Calls Try.prog 19 #[.slice A0 l0.length c0, .slice A1 l1.length c1] w fun e w' => e = .returned (.bool r) ∧ Drawn0 w w' := by
  have HR0 := Aside0.mk hr0
  have HC0 := Aside0.mk hc0
  clear hr0 hc0
  have HR1 := Aside0.mk hr1
  have HC1 := Aside0.mk hc1
  clear hr1 hc1
  have H : (if (l0.length : Int) = (l1.length : Int) then (laws_jtTexts.l0 k l0 l1 0) else (some false)) = some r := h
  clear h
  by_cases c3 : (l0.length : Int) = (l1.length : Int)
  · rw [if_pos c3] at H
    have c3b0 : ((l0.length : Int) == (l1.length : Int)) = true := beq_iff_eq.mpr c3
    have c3b1 : ((l0.length : Int) != (l1.length : Int)) = false := bne_eq_false_iff_eq.mpr c3
    have c3b2 : (l0.length == l1.length) = true := by first | simpa using c3 | (simp at c3 ⊢; omega)
    clear c3
    have H' := Aside0.mk H
    clear H
    go_enter Try.func19, Try.ntmps19
    go_wp2
    repeat (go_quiet (fail); try go_wp2)
    go_loopg [5] k (fun kq v5 w' => ∃ (x5_1 : Int), v5 = .int .i64 x5_1 ∧ Aside0 (laws_jtTexts.l0 kq l0 l1 x5_1 = some r) ∧ Aside0 (kq ≤ k) ∧ Drawn0 w w')
    case atStart => exact ⟨(0), (by first | rfl | (simp; done) | (simp [*]; done)), H', ⟨Nat.le_refl _⟩, by repeat (first | exact Drawn0.refl _ | apply Drawn0.step)⟩
    case round =>
      clear H'
      try clear c1
      try clear p2
      try clear c3
      try clear c3b0
      try clear c3b1
      try clear c3b2
      obtain ⟨x5_1, rfl, HA, HK1, ⟨m1, rfl⟩⟩ := hrel
      cases gk with
      | zero => exact absurd HA.out (by simp [laws_jtTexts.l0])
      | succ k1 =>
        have H := HA.out
        clear HA
        simp only [laws_jtTexts.l0] at H
        by_cases c4 : x5_1 < (l0.length : Int)
        · rw [if_pos c4] at H
          have c4b0 : decide (x5_1 < (l0.length : Int)) = true := decide_eq_true c4
          clear c4
          by_cases c5 : 0 ≤ x5_1
          · rw [if_pos c5] at H
            have c5b0 : decide (0 ≤ x5_1) = true := decide_eq_true c5
            clear c5
            by_cases c6 : x5_1 < (l1.length : Int)
            · rw [if_pos c6] at H
              have c6b0 : decide (x5_1 < (l1.length : Int)) = true := decide_eq_true c6
              clear c6
              by_cases c7 : (rdOf ByteArray.empty l0 x5_1).toList = (rdOf ByteArray.empty l1 x5_1).toList
              · rw [if_pos c7] at H
                have c7b0 : ((rdOf ByteArray.empty l0 x5_1).toList == (rdOf ByteArray.empty l1 x5_1).toList) = true := beq_iff_eq.mpr c7
                have c7b1 : ((rdOf ByteArray.empty l0 x5_1).toList != (rdOf ByteArray.empty l1 x5_1).toList) = false := bne_eq_false_iff_eq.mpr c7
                clear c7
                have H' := Aside0.mk H
                clear H
                have p329 : 0 ≤ (x5_1 : Int) := of_decide_eq_true (by first | (with_reducible assumption) | assumption)
                have q329 : x5_1 < (l0.length : Int) := of_decide_eq_true (by first | (with_reducible assumption) | assumption)
                obtain ⟨ad329, e329, hx329_0⟩ := Kd.at_string HR0.out x5_1 p329 q329
                cases e329
                replace p329 := eq_true p329
                replace q329 := eq_true q329
                have p330 : 0 ≤ (x5_1 : Int) := of_decide_eq_true (by first | (with_reducible assumption) | assumption)
                have q330 : x5_1 < (l1.length : Int) := of_decide_eq_true (by first | (with_reducible assumption) | assumption)
                obtain ⟨ad330, e330, hx330_0⟩ := Kd.at_string HR1.out x5_1 p330 q330
                cases e330
                replace p330 := eq_true p330
                replace q330 := eq_true q330
                go_wp2
                repeat (go_quiet (fail); try go_wp2)
                go_roundg k1
                case measure => have := HK1.out; omega
                case rel => exact ⟨(wrap64 (x5_1 + 1)), (by first | rfl | (simp; done) | (simp [*]; done)), H', ⟨by have := HK1.out; omega⟩, by repeat (first | exact Drawn0.refl _ | apply Drawn0.step)⟩
              · rw [if_neg c7] at H
                have c7b0 : ((rdOf ByteArray.empty l0 x5_1).toList == (rdOf ByteArray.empty l1 x5_1).toList) = false := beq_eq_false_iff_ne.mpr c7
                have c7b1 : ((rdOf ByteArray.empty l0 x5_1).toList != (rdOf ByteArray.empty l1 x5_1).toList) = true := bne_iff_ne.mpr c7
                obtain rfl := Option.some.inj H
                have p329 : 0 ≤ (x5_1 : Int) := of_decide_eq_true (by first | (with_reducible assumption) | assumption)
                have q329 : x5_1 < (l0.length : Int) := of_decide_eq_true (by first | (with_reducible assumption) | assumption)
                obtain ⟨ad329, e329, hx329_0⟩ := Kd.at_string HR0.out x5_1 p329 q329
                cases e329
                replace p329 := eq_true p329
                replace q329 := eq_true q329
                have p330 : 0 ≤ (x5_1 : Int) := of_decide_eq_true (by first | (with_reducible assumption) | assumption)
                have q330 : x5_1 < (l1.length : Int) := of_decide_eq_true (by first | (with_reducible assumption) | assumption)
                obtain ⟨ad330, e330, hx330_0⟩ := Kd.at_string HR1.out x5_1 p330 q330
                cases e330
                replace p330 := eq_true p330
                replace q330 := eq_true q330
                go_wp2
                repeat (go_quiet (fail); try go_wp2)
                go_ret
                exact ⟨by first | rfl | (simp; done) | (simp [*]; done), by repeat (first | exact Drawn0.refl _ | apply Drawn0.step)⟩
            · rw [if_neg c6] at H
              exact absurd H (by simp)
          · rw [if_neg c5] at H
            exact absurd H (by simp)
        · rw [if_neg c4] at H
          have c4b0 : decide (x5_1 < (l0.length : Int)) = false := decide_eq_false c4
          clear c4
          obtain rfl := Option.some.inj H
          go_wp2
          repeat (go_quiet (fail); try go_wp2)
          go_ret
          exact ⟨by first | rfl | (simp; done) | (simp [*]; done), by repeat (first | exact Drawn0.refl _ | apply Drawn0.step)⟩
  · rw [if_neg c3] at H
    have c3b0 : ((l0.length : Int) == (l1.length : Int)) = false := beq_eq_false_iff_ne.mpr c3
    have c3b1 : ((l0.length : Int) != (l1.length : Int)) = true := bne_iff_ne.mpr c3
    have c3b2 : (l0.length == l1.length) = false := by first | simpa using c3 | (simp at c3 ⊢; omega)
    obtain rfl := Option.some.inj H
    go_enter Try.func19, Try.ntmps19
    go_wp2
    repeat (go_quiet (fail); try go_wp2)
    go_ret
    exact ⟨by first | rfl | (simp; done) | (simp [*]; done), by repeat (first | exact Drawn0.refl _ | apply Drawn0.step)⟩

end Go.Proofs.Ytepihebkdnmppaa.Ai
