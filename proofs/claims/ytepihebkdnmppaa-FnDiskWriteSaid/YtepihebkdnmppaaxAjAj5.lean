/- Walks of the seat's functions, written by a program of this session (xprint.py) with the kit's printer: each call comes to just what its Lean function says. -/
import Derived.Test.YtepihebkdnmppaaxAjAj0
import Derived.Test.YtepihebkdnmppaaxAjAj4
namespace Go.Proofs.Ytepihebkdnmppaa.Aj
open Go.RowKit Go.Proofs.YtepihebkdnmppaaV.PrintWords Go.Proofs.YtepihebkdnmppaaV.PrintLast Go.Proofs.YtepihebkdnmppaaV.PrintMore
attribute [local go_sem] xH min2_int max_two min_two xA xB max_four min_four   -- for this text's walks alone
attribute [local go_sem high] World.zO
set_option linter.unusedVariables false
set_option linter.unusedSimpArgs false

/-! ### spec_l7Write: function 43 -/
def spec_l7Write.j0 : Nat → Bool → List ByteArray → List (S70) → Int → Int → Int → ByteArray → Option (List ByteArray × (List (S70)) × Int × Int × Bool)
  | 0, _, _, _, _, _, _, _ => none
  | k + 1, x31, x155000, x155001, x155002, x155003, x157000, x157001 => if x31 = true then ((spec_l7Copy.f x155000 x155001 x155002 x155003).bind fun bt166 => (some (bt166.1, bt166.2.1, bt166.2.2.1, bt166.2.2.2, false))) else ((spec_l7Copy.f x155000 x155001 x155002 x155003).bind fun bt174 => (if bt174.2.1.length < 5864062014805 then ((spec_l7Less.f x155003).bind fun t186 => ((spec_l7Less.f x155002).bind fun t187 => (some (bt174.1, (bt174.2.1 ++ [(⟨x157000, x157001⟩ : S70)]), t187, t186, true)))) else (none)))
def spec_l7Write.f (k : Nat) (l0_0 : List ByteArray) (l0_1 : List (S70)) (a0_2 : Int) (a0_3 : Int) (a1 : Int) (a2 : ByteArray) : Option (List ByteArray × (List (S70)) × Int × Int × Bool) := if a0_3 = 0 then ((spec_l7Copy.f l0_0 l0_1 a0_2 a0_3).bind fun bt157 => (some (bt157.1, bt157.2.1, bt157.2.2.1, bt157.2.2.2, true))) else ((spec_l7Wait.f a1 a2).bind fun t165 => (if t165 = true then (if a0_2 = 0 then (spec_l7Write.j0 k true l0_0 l0_1 a0_2 a0_3 a1 a2) else (spec_l7Write.j0 k (decide ((l0_1.length : Int) ≥ 100)) l0_0 l0_1 a0_2 a0_3 a1 a2)) else (spec_l7Write.j0 k true l0_0 l0_1 a0_2 a0_3 a1 a2)))
theorem spec_l7Write.mono_l : ∀ k, (∀ y0 y1 y2 y3 y4 y5 y6, LeO (spec_l7Write.j0 k y0 y1 y2 y3 y4 y5 y6) (spec_l7Write.j0 (k + 1) y0 y1 y2 y3 y4 y5 y6))
  | 0 => fun _ _ _ _ _ _ _ r h => by simp [spec_l7Write.j0] at h
  | k + 1 => by
    have ih0 := spec_l7Write.mono_l k
    · intro y0 y1 y2 y3 y4 y5 y6
      unfold spec_l7Write.j0
      repeat' first
      | (with_reducible exact ih0 _ _ _ _ _ _ _)
      | (with_reducible exact LeO.refl _)
      | (with_reducible exact LeO.none _)
      | (with_reducible refine LeO.ite ?_ ?_)
      | (with_reducible refine LeO.bind ?_ (fun _ => ?_))
      | exact ih0 _ _ _ _ _ _ _
      | exact LeO.none _
      | refine LeO.ite ?_ ?_
      | refine LeO.bind ?_ (fun _ => ?_)
theorem spec_l7Write.mono : ∀ a0 a1 a2 a3 a4 a5 k, LeO (spec_l7Write.f k a0 a1 a2 a3 a4 a5) (spec_l7Write.f (k + 1) a0 a1 a2 a3 a4 a5) := by
  intro a0 a1 a2 a3 a4 a5 k
  have ih0 := spec_l7Write.mono_l k
  unfold spec_l7Write.f
  repeat' first
      | (with_reducible exact ih0 _ _ _ _ _ _ _)
      | (with_reducible exact LeO.refl _)
      | (with_reducible exact LeO.none _)
      | (with_reducible refine LeO.ite ?_ ?_)
      | (with_reducible refine LeO.bind ?_ (fun _ => ?_))
      | exact ih0 _ _ _ _ _ _ _
      | exact LeO.none _
      | refine LeO.ite ?_ ?_
      | refine LeO.bind ?_ (fun _ => ?_)
set_option maxHeartbeats 8000000 in
set_option maxRecDepth 100000 in
theorem spec_l7Write.calls (k : Nat) (A0_0 : Option Addr) (c0_0 : Nat) (l0_0 : List ByteArray) (A0_1 : Option Addr) (c0_1 : Nat) (l0_1 : List (S70)) (a0_2 : Int) (a0_3 : Int) (a1 : Int) (a2 : ByteArray) (r1 : List ByteArray) (r2 : List (S70)) (r3 : Int) (r4 : Int) (r5 : Bool) (w : World) (hr0_0 : Kd.C Kd.string w A0_0 l0_0.length l0_0) (hc0_0 : l0_0.length ≤ c0_0) (hr0_1 : Kd.C k70 w A0_1 l0_1.length l0_1) (hc0_1 : l0_1.length ≤ c0_1) (h : spec_l7Write.f k l0_0 l0_1 a0_2 a0_3 a1 a2 = some (r1, r2, r3, r4, r5)) :
    Calls Try.prog 43 #[.agg #[.slice A0_0 l0_0.length c0_0, .slice A0_1 l0_1.length c0_1, .int .i64 a0_2, .int .i64 a0_3], .int .i64 a1, .string a2] w fun e w' => ∃ v0_ v1_ : Value, e = .returned (.tuple #[.agg #[v0_, v1_, .int .i64 r3, .int .i64 r4], .bool r5]) ∧ Kd.R Kd.string 9 w' w.heap.size (fun _ => True) v0_ r1 ∧ Kd.R k70 70 w' w.heap.size (fun _ => True) v1_ r2 ∧ Below w.heap.size w w' := by
  have hu26 := Try.underlying26
  have hu70 := Try.underlying70
  have HR0_0 := Aside0.mk hr0_0
  have HC0_0 := Aside0.mk hc0_0
  clear hr0_0 hc0_0
  have HR0_1 := Aside0.mk hr0_1
  have HC0_1 := Aside0.mk hc0_1
  clear hr0_1 hc0_1
  have HB := Aside0.mk (Below.refl w.heap.size w)
  have H : (if a0_3 = 0 then ((spec_l7Copy.f l0_0 l0_1 a0_2 a0_3).bind fun bt157 => (some (bt157.1, bt157.2.1, bt157.2.2.1, bt157.2.2.2, true))) else ((spec_l7Wait.f a1 a2).bind fun t165 => (if t165 = true then (if a0_2 = 0 then (spec_l7Write.j0 k true l0_0 l0_1 a0_2 a0_3 a1 a2) else (spec_l7Write.j0 k (decide ((l0_1.length : Int) ≥ 100)) l0_0 l0_1 a0_2 a0_3 a1 a2)) else (spec_l7Write.j0 k true l0_0 l0_1 a0_2 a0_3 a1 a2)))) = some (r1, r2, r3, r4, r5) := h
  clear h
  by_cases c4 : a0_3 = 0
  · rw [if_pos c4] at H
    have c4b0 : (a0_3 == 0) = true := beq_iff_eq.mpr c4
    have c4b1 : (a0_3 != 0) = false := bne_eq_false_iff_eq.mpr c4
    clear c4
    replace H := Option.bind_eq_some_iff.mp H
    obtain ⟨⟨t157, t160, t163, t164⟩, A50, H⟩ := H
    replace H : (some (t157, t160, t163, t164, true)) = some (r1, r2, r3, r4, r5) := H
    have A5 := Aside0.mk A50
    clear A50
    simp only [Option.some.injEq, Prod.mk.injEq] at H
    obtain ⟨rfl, rfl, rfl, rfl, rfl⟩ := H
    go_enter Try.func43, Try.ntmps43
    go_wp2_with (first | ((with_reducible refine qZ (N := 3) rfl ?_); refine qY ?hg (N := 3) ?hd (cs := #[.slice A0_0 l0_0.length c0_0, .slice A0_1 l0_1.length c0_1, .int .i64 a0_2, .int .i64 a0_3]) (t := 26) ?hr ?_; (case hd => rfl); (case hg => rfl); (case hr => first | (go_simp; done) | (go_simp; rfl)); intro gb154 hg w6 hbox hb; have n0_ := Aside0.mk (qQ (by repeat (first | (with_reducible first | exact HB.out | apply qG | apply qD | apply qF) | exact HB.out)) hb); have n1_ := Aside0.mk (hbox); have n2_ := Aside0.mk ((by rw [hg]; exact (qP (by repeat (first | (with_reducible first | exact HB.out | apply qG | apply qD | apply qF) | exact HB.out))) : w.heap.size ≤ gb154)); have n3_ := Aside0.mk ((by rw [hg]; exact (qP (by repeat (first | (with_reducible first | exact HB.out | apply qG | apply qD | apply qF) | exact HB.out))) : w.heap.size ≤ gb154)); clear HB; have HB := n0_; have BK154 := n1_; have GW154 := n2_; have GE154 := n3_; clear n0_ n1_ n2_ n3_; clear hb hbox hg) | ((with_reducible refine qZ (N := 6) rfl ?_); refine qY ?hg (N := 6) ?hd (cs := #[.slice none 0 0, .slice none 0 0, .int .i64 0, .int .i64 0]) (t := 26) ?hr ?_; (case hd => rfl); (case hg => rfl); (case hr => first | (go_simp; done) | (go_simp; rfl)); intro gb155 hg w7 hbox hb; have n0_ := Aside0.mk (qL (g := gb154) (o := .cells #[.slice A0_0 l0_0.length c0_0, .slice A0_1 l0_1.length c0_1, .int .i64 a0_2, .int .i64 a0_3] 26 (0, 0)) (bw_ BK154.out) hb); have n1_ := Aside0.mk (qQ (by repeat (first | (with_reducible first | exact HB.out | apply qG | apply qD | apply qF | refine qC ?_ GE154.out) | exact HB.out)) hb); have n2_ := Aside0.mk (hbox); have n3_ := Aside0.mk ((by rw [hg]; exact (qP (by repeat (first | (with_reducible first | exact HB.out | apply qG | apply qD | apply qF | refine qC ?_ GE154.out) | exact HB.out))) : w.heap.size ≤ gb155)); have n4_ := Aside0.mk ((by rw [hg]; exact (qP (by repeat (first | (with_reducible first | exact HB.out | apply qG | apply qD | apply qF | refine qC ?_ GE154.out) | exact HB.out))) : w.heap.size ≤ gb155)); have n5_ := Aside0.mk ((by rw [hg]; exact Nat.ne_of_lt (zE (g := gb154) (o := .cells #[.slice A0_0 l0_0.length c0_0, .slice A0_1 l0_1.length c0_1, .int .i64 a0_2, .int .i64 a0_3] 26 (0, 0)) (bw_ BK154.out)) : gb154 ≠ gb155)); have n6_ := Aside0.mk ((by rw [hg]; exact Nat.ne_of_gt (zE (g := gb154) (o := .cells #[.slice A0_0 l0_0.length c0_0, .slice A0_1 l0_1.length c0_1, .int .i64 a0_2, .int .i64 a0_3] 26 (0, 0)) (bw_ BK154.out)) : gb155 ≠ gb154)); clear BK154; clear HB; have BK154 := n0_; have HB := n1_; have BK155 := n2_; have GW155 := n3_; have GE155 := n4_; have NB154_155 := n5_; have NB155_154 := n6_; clear n0_ n1_ n2_ n3_ n4_ n5_ n6_; clear hb hbox hg) | ((with_reducible refine qZ (N := 8) rfl ?_); refine qY ?hg (N := 8) ?hd (cs := #[.int .i64 0, .string (⟨#[]⟩ : ByteArray)]) (t := 70) ?hr ?_; (case hd => rfl); (case hg => rfl); (case hr => first | (go_simp; done) | (go_simp; rfl)); intro gb156 hg w8 hbox hb; have n0_ := Aside0.mk (qL (g := gb154) (o := .cells #[.slice A0_0 l0_0.length c0_0, .slice A0_1 l0_1.length c0_1, .int .i64 a0_2, .int .i64 a0_3] 26 (0, 0)) (bw_ BK154.out) hb); have n1_ := Aside0.mk (qL (g := gb155) (o := .cells #[.slice none 0 0, .slice none 0 0, .int .i64 0, .int .i64 0] 26 (0, 0)) (bw_ BK155.out) hb); have n2_ := Aside0.mk (qQ (by repeat (first | (with_reducible first | exact HB.out | apply qG | apply qD | apply qF | refine qC ?_ GE154.out | refine qC ?_ GE155.out) | exact HB.out)) hb); have n3_ := Aside0.mk (hbox); have n4_ := Aside0.mk ((by rw [hg]; exact (qP (by repeat (first | (with_reducible first | exact HB.out | apply qG | apply qD | apply qF | refine qC ?_ GE154.out | refine qC ?_ GE155.out) | exact HB.out))) : w.heap.size ≤ gb156)); have n5_ := Aside0.mk ((by rw [hg]; exact (qP (by repeat (first | (with_reducible first | exact HB.out | apply qG | apply qD | apply qF | refine qC ?_ GE154.out | refine qC ?_ GE155.out) | exact HB.out))) : w.heap.size ≤ gb156)); have n6_ := Aside0.mk ((by rw [hg]; exact Nat.ne_of_lt (zE (g := gb154) (o := .cells #[.slice A0_0 l0_0.length c0_0, .slice A0_1 l0_1.length c0_1, .int .i64 a0_2, .int .i64 a0_3] 26 (0, 0)) (bw_ BK154.out)) : gb154 ≠ gb156)); have n7_ := Aside0.mk ((by rw [hg]; exact Nat.ne_of_gt (zE (g := gb154) (o := .cells #[.slice A0_0 l0_0.length c0_0, .slice A0_1 l0_1.length c0_1, .int .i64 a0_2, .int .i64 a0_3] 26 (0, 0)) (bw_ BK154.out)) : gb156 ≠ gb154)); have n8_ := Aside0.mk ((by rw [hg]; exact Nat.ne_of_lt (zE (g := gb155) (o := .cells #[.slice none 0 0, .slice none 0 0, .int .i64 0, .int .i64 0] 26 (0, 0)) (bw_ BK155.out)) : gb155 ≠ gb156)); have n9_ := Aside0.mk ((by rw [hg]; exact Nat.ne_of_gt (zE (g := gb155) (o := .cells #[.slice none 0 0, .slice none 0 0, .int .i64 0, .int .i64 0] 26 (0, 0)) (bw_ BK155.out)) : gb156 ≠ gb155)); clear BK154; clear BK155; clear HB; have BK154 := n0_; have BK155 := n1_; have HB := n2_; have BK156 := n3_; have GW156 := n4_; have GE156 := n5_; have NB154_156 := n6_; have NB156_154 := n7_; have NB155_156 := n8_; have NB156_155 := n9_; clear n0_ n1_ n2_ n3_ n4_ n5_ n6_ n7_ n8_ n9_; clear hb hbox hg; have hnb9 := NB156_154.out; have hnc9 := NB154_156.out; have hnb10 := NB156_155.out; have hnc10 := NB155_156.out; have hcz11_0 : w8.cell? ⟨gb156, 0, none⟩ = some (.int .i64 0) := (qA BK156.out 0).trans rfl; have hcz11_1 : w8.cell? ⟨gb156, 1, none⟩ = some (.string (⟨#[]⟩ : ByteArray)) := (qA BK156.out 1).trans rfl; have hfz11_0 := qB BK156.out 0; have hfz11_1 := qB BK156.out 1; have hnb12 := NB154_155.out; have hnc12 := NB155_154.out; have hcz13_0 : w8.cell? ⟨gb154, 0, none⟩ = some (.slice A0_0 l0_0.length c0_0) := (qA BK154.out 0).trans rfl; have hcz13_1 : w8.cell? ⟨gb154, 1, none⟩ = some (.slice A0_1 l0_1.length c0_1) := (qA BK154.out 1).trans rfl; have hcz13_2 : w8.cell? ⟨gb154, 2, none⟩ = some (.int .i64 a0_2) := (qA BK154.out 2).trans rfl; have hcz13_3 : w8.cell? ⟨gb154, 3, none⟩ = some (.int .i64 a0_3) := (qA BK154.out 3).trans rfl; have hfz13_0 := qB BK154.out 0; have hfz13_1 := qB BK154.out 1; have hfz13_2 := qB BK154.out 2; have hfz13_3 := qB BK154.out 3) | ((with_reducible refine qX (f := 38) rfl ?_); refine zM (some 17) rfl rfl Try.func38 (by kernel_rfl) rfl #[.agg #[.slice A0_0 l0_0.length c0_0, .slice A0_1 l0_1.length c0_1, .int .i64 a0_2, .int .i64 a0_3]] rfl (by (try simp only [List.map_toArray, List.map_cons, List.map_nil]); first | done | rfl | (simp only [List.length_drop, List.length_take]; rfl)) ?_; (with_reducible refine (spec_l7Copy.calls _ _ l0_0 _ _ l0_1 a0_2 a0_3 t157 t160 t163 t164 _ ?side1 ?side2 ?side3 ?side4 A5.out).mono ?_); (case side1 => exact Kd.zH HR0_0.out (by repeat (first | (with_reducible first | exact HB.out | apply qG | apply qD | apply qF | refine qC ?_ GE154.out | refine qC ?_ GE155.out | refine qC ?_ GE156.out) | exact HB.out))); (case side2 => exact HC0_0.out); (case side3 => exact Kd.zH HR0_1.out (by repeat (first | (with_reducible first | exact HB.out | apply qG | apply qD | apply qF | refine qC ?_ GE154.out | refine qC ?_ GE155.out | refine qC ?_ GE156.out) | exact HB.out))); (case side4 => exact HC0_1.out); rintro e w14 ⟨v158, v161, rfl, ho0, ho1, hb⟩; refine ⟨_, rfl, ?_⟩; have n0_ := Aside0.mk (Kd.zJ ho0 (qP (by repeat (first | (with_reducible first | exact HB.out | apply qG | apply qD | apply qF | refine qC ?_ GE154.out | refine qC ?_ GE155.out | refine qC ?_ GE156.out) | exact HB.out)))); have n1_ := Aside0.mk (Kd.zJ (Kd.R_newB ho1 (g := gb156) (o := .cells #[.int .i64 a1, .string a2] 70 (0, 0)) (by (with_reducible repeat (first | refine qH ?_ _ | refine qI ?_ | refine qE ?_ _)); refine qN (cs := #[.int .i64 a1, .string (⟨#[]⟩ : ByteArray)]) ?_ 1 _ rfl; (with_reducible repeat (first | refine qH ?_ _ | refine qI ?_ | refine qE ?_ _)); refine qN (cs := #[.int .i64 0, .string (⟨#[]⟩ : ByteArray)]) ?_ 0 _ rfl; (with_reducible repeat (first | refine qH ?_ _ | refine qI ?_ | refine qE ?_ _)); exact BK156.out)) (qP (by repeat (first | (with_reducible first | exact HB.out | apply qG | apply qD | apply qF | refine qC ?_ GE154.out | refine qC ?_ GE155.out | refine qC ?_ GE156.out) | exact HB.out)))); have n2_ := Aside0.mk (qL (g := gb154) (o := .cells #[.slice A0_0 l0_0.length c0_0, .slice A0_1 l0_1.length c0_1, .int .i64 a0_2, .int .i64 a0_3] 26 (0, 0)) (by (with_reducible repeat (first | refine qH ?_ _ | refine qI ?_ | refine qE ?_ _)); refine qR ?_ NB154_156.out _; (with_reducible repeat (first | refine qH ?_ _ | refine qI ?_ | refine qE ?_ _)); refine qR ?_ NB154_156.out _; (with_reducible repeat (first | refine qH ?_ _ | refine qI ?_ | refine qE ?_ _)); exact BK154.out) hb); have n3_ := Aside0.mk (qL (g := gb155) (o := .cells #[.slice none 0 0, .slice none 0 0, .int .i64 0, .int .i64 0] 26 (0, 0)) (by (with_reducible repeat (first | refine qH ?_ _ | refine qI ?_ | refine qE ?_ _)); refine qR ?_ NB155_156.out _; (with_reducible repeat (first | refine qH ?_ _ | refine qI ?_ | refine qE ?_ _)); refine qR ?_ NB155_156.out _; (with_reducible repeat (first | refine qH ?_ _ | refine qI ?_ | refine qE ?_ _)); exact BK155.out) hb); have n4_ := Aside0.mk (qL (g := gb156) (o := .cells #[.int .i64 a1, .string a2] 70 (0, 0)) (by (with_reducible repeat (first | refine qH ?_ _ | refine qI ?_ | refine qE ?_ _)); refine qN (cs := #[.int .i64 a1, .string (⟨#[]⟩ : ByteArray)]) ?_ 1 _ rfl; (with_reducible repeat (first | refine qH ?_ _ | refine qI ?_ | refine qE ?_ _)); refine qN (cs := #[.int .i64 0, .string (⟨#[]⟩ : ByteArray)]) ?_ 0 _ rfl; (with_reducible repeat (first | refine qH ?_ _ | refine qI ?_ | refine qE ?_ _)); exact BK156.out) hb); have n5_ := Aside0.mk (qQ (by repeat (first | (with_reducible first | exact HB.out | apply qG | apply qD | apply qF | refine qC ?_ GE154.out | refine qC ?_ GE155.out | refine qC ?_ GE156.out) | exact HB.out)) hb); clear BK154; clear BK155; clear BK156; clear HB; have HO159 := n0_; have HO162 := n1_; have BK154 := n2_; have BK155 := n3_; have BK156 := n4_; have HB := n5_; clear n0_ n1_ n2_ n3_ n4_ n5_; (try clear hb); (try clear hb2); (try clear hk); (try clear hi); (try clear ho0); (try clear ho1); obtain ⟨Ao15, co15, eo15⟩ := Kd.zD HO159.out; subst eo15; have hcz16_0 : w14.cell? ⟨gb155, 0, none⟩ = some (.slice none 0 0) := (qA BK155.out 0).trans rfl; have hcz16_1 : w14.cell? ⟨gb155, 1, none⟩ = some (.slice none 0 0) := (qA BK155.out 1).trans rfl; have hcz16_2 : w14.cell? ⟨gb155, 2, none⟩ = some (.int .i64 0) := (qA BK155.out 2).trans rfl; have hcz16_3 : w14.cell? ⟨gb155, 3, none⟩ = some (.int .i64 0) := (qA BK155.out 3).trans rfl; have hfz16_0 := qB BK155.out 0; have hfz16_1 := qB BK155.out 1; have hfz16_2 := qB BK155.out 2; have hfz16_3 := qB BK155.out 3; obtain ⟨Ao17, co17, eo17⟩ := Kd.zD HO162.out; subst eo17))
    refine bodyPost_ret (results_ct rfl _ _ gb155 26 #[.slice Ao15 t157.length co15, .slice Ao17 t160.length co17, .int .i64 t163, .int .i64 t164] (0, 0) _ rfl (by (with_reducible repeat (first | refine qH ?_ _ | refine qI ?_ | refine qE ?_ _)); refine qN (cs := #[.slice Ao15 t157.length co15, .slice Ao17 t160.length co17, .int .i64 t163, .int .i64 0]) ?_ 3 _ rfl; (with_reducible repeat (first | refine qH ?_ _ | refine qI ?_ | refine qE ?_ _)); refine qN (cs := #[.slice Ao15 t157.length co15, .slice Ao17 t160.length co17, .int .i64 0, .int .i64 0]) ?_ 2 _ rfl; (with_reducible repeat (first | refine qH ?_ _ | refine qI ?_ | refine qE ?_ _)); refine qN (cs := #[.slice Ao15 t157.length co15, .slice none 0 0, .int .i64 0, .int .i64 0]) ?_ 1 _ rfl; (with_reducible repeat (first | refine qH ?_ _ | refine qI ?_ | refine qE ?_ _)); refine qN (cs := #[.slice none 0 0, .slice none 0 0, .int .i64 0, .int .i64 0]) ?_ 0 _ rfl; (with_reducible repeat (first | refine qH ?_ _ | refine qI ?_ | refine qE ?_ _)); exact BK155.out) Try.underlying26 rfl (by kernel_rfl)) rfl ?_
    exact ⟨_, _, by first | rfl | (simp [errW_none, errW_some] <;> rfl) | (simp [*, errW_none, errW_some] <;> rfl), by (with_reducible repeat (first | apply Kd.qU | apply Kd.qT | apply Kd.qV)); exact Kd.qS (Kd.R_far (p := ⟨gb155, 3, none⟩) (Kd.R_far (p := ⟨gb155, 2, none⟩) (Kd.R_far (p := ⟨gb155, 1, none⟩) (Kd.R_far (p := ⟨gb155, 0, none⟩) (Kd.qW HO159.out BK155.out (by decide)) (fun _ hk => hk.2) (.slice Ao15 t157.length co15)) (fun _ hk => hk.2) (.slice Ao17 t160.length co17)) (fun _ hk => hk.2) (.int .i64 t163)) (fun _ hk => hk.2) (.int .i64 t164)) (fun _ hk => trivial), by (with_reducible repeat (first | apply Kd.qU | apply Kd.qT | apply Kd.qV)); exact Kd.qS (Kd.R_far (p := ⟨gb155, 3, none⟩) (Kd.R_far (p := ⟨gb155, 2, none⟩) (Kd.R_far (p := ⟨gb155, 1, none⟩) (Kd.R_far (p := ⟨gb155, 0, none⟩) (Kd.qW HO162.out BK155.out (by decide)) (fun _ hk => hk.2) (.slice Ao15 t157.length co15)) (fun _ hk => hk.2) (.slice Ao17 t160.length co17)) (fun _ hk => hk.2) (.int .i64 t163)) (fun _ hk => hk.2) (.int .i64 t164)) (fun _ hk => trivial), by repeat (first | (with_reducible first | exact HB.out | apply qG | apply qD | apply qF | refine qC ?_ GE154.out | refine qC ?_ GE155.out | refine qC ?_ GE156.out) | exact HB.out)⟩
  · rw [if_neg c4] at H
    have c4b0 : (a0_3 == 0) = false := beq_eq_false_iff_ne.mpr c4
    have c4b1 : (a0_3 != 0) = true := bne_iff_ne.mpr c4
    have HC18 := Aside0.mk H
    clear H
    go_enter Try.func43, Try.ntmps43
    go_upto_region 4 with (first | ((with_reducible refine qZ (N := 3) rfl ?_); refine qY ?hg (N := 3) ?hd (cs := #[.slice A0_0 l0_0.length c0_0, .slice A0_1 l0_1.length c0_1, .int .i64 a0_2, .int .i64 a0_3]) (t := 26) ?hr ?_; (case hd => rfl); (case hg => rfl); (case hr => first | (go_simp; done) | (go_simp; rfl)); intro gb154 hg w19 hbox hb; have n0_ := Aside0.mk (qQ (by repeat (first | (with_reducible first | exact HB.out | apply qG | apply qD | apply qF) | exact HB.out)) hb); have n1_ := Aside0.mk (hbox); have n2_ := Aside0.mk ((by rw [hg]; exact (qP (by repeat (first | (with_reducible first | exact HB.out | apply qG | apply qD | apply qF) | exact HB.out))) : w.heap.size ≤ gb154)); have n3_ := Aside0.mk ((by rw [hg]; exact (qP (by repeat (first | (with_reducible first | exact HB.out | apply qG | apply qD | apply qF) | exact HB.out))) : w.heap.size ≤ gb154)); clear HB; have HB := n0_; have BK154 := n1_; have GW154 := n2_; have GE154 := n3_; clear n0_ n1_ n2_ n3_; clear hb hbox hg) | ((with_reducible refine qZ (N := 6) rfl ?_); refine qY ?hg (N := 6) ?hd (cs := #[.slice none 0 0, .slice none 0 0, .int .i64 0, .int .i64 0]) (t := 26) ?hr ?_; (case hd => rfl); (case hg => rfl); (case hr => first | (go_simp; done) | (go_simp; rfl)); intro gb155 hg w20 hbox hb; have n0_ := Aside0.mk (qL (g := gb154) (o := .cells #[.slice A0_0 l0_0.length c0_0, .slice A0_1 l0_1.length c0_1, .int .i64 a0_2, .int .i64 a0_3] 26 (0, 0)) (bw_ BK154.out) hb); have n1_ := Aside0.mk (qQ (by repeat (first | (with_reducible first | exact HB.out | apply qG | apply qD | apply qF | refine qC ?_ GE154.out) | exact HB.out)) hb); have n2_ := Aside0.mk (hbox); have n3_ := Aside0.mk ((by rw [hg]; exact (qP (by repeat (first | (with_reducible first | exact HB.out | apply qG | apply qD | apply qF | refine qC ?_ GE154.out) | exact HB.out))) : w.heap.size ≤ gb155)); have n4_ := Aside0.mk ((by rw [hg]; exact (qP (by repeat (first | (with_reducible first | exact HB.out | apply qG | apply qD | apply qF | refine qC ?_ GE154.out) | exact HB.out))) : w.heap.size ≤ gb155)); have n5_ := Aside0.mk ((by rw [hg]; exact Nat.ne_of_lt (zE (g := gb154) (o := .cells #[.slice A0_0 l0_0.length c0_0, .slice A0_1 l0_1.length c0_1, .int .i64 a0_2, .int .i64 a0_3] 26 (0, 0)) (bw_ BK154.out)) : gb154 ≠ gb155)); have n6_ := Aside0.mk ((by rw [hg]; exact Nat.ne_of_gt (zE (g := gb154) (o := .cells #[.slice A0_0 l0_0.length c0_0, .slice A0_1 l0_1.length c0_1, .int .i64 a0_2, .int .i64 a0_3] 26 (0, 0)) (bw_ BK154.out)) : gb155 ≠ gb154)); clear BK154; clear HB; have BK154 := n0_; have HB := n1_; have BK155 := n2_; have GW155 := n3_; have GE155 := n4_; have NB154_155 := n5_; have NB155_154 := n6_; clear n0_ n1_ n2_ n3_ n4_ n5_ n6_; clear hb hbox hg) | ((with_reducible refine qZ (N := 8) rfl ?_); refine qY ?hg (N := 8) ?hd (cs := #[.int .i64 0, .string (⟨#[]⟩ : ByteArray)]) (t := 70) ?hr ?_; (case hd => rfl); (case hg => rfl); (case hr => first | (go_simp; done) | (go_simp; rfl)); intro gb156 hg w21 hbox hb; have n0_ := Aside0.mk (qL (g := gb154) (o := .cells #[.slice A0_0 l0_0.length c0_0, .slice A0_1 l0_1.length c0_1, .int .i64 a0_2, .int .i64 a0_3] 26 (0, 0)) (bw_ BK154.out) hb); have n1_ := Aside0.mk (qL (g := gb155) (o := .cells #[.slice none 0 0, .slice none 0 0, .int .i64 0, .int .i64 0] 26 (0, 0)) (bw_ BK155.out) hb); have n2_ := Aside0.mk (qQ (by repeat (first | (with_reducible first | exact HB.out | apply qG | apply qD | apply qF | refine qC ?_ GE154.out | refine qC ?_ GE155.out) | exact HB.out)) hb); have n3_ := Aside0.mk (hbox); have n4_ := Aside0.mk ((by rw [hg]; exact (qP (by repeat (first | (with_reducible first | exact HB.out | apply qG | apply qD | apply qF | refine qC ?_ GE154.out | refine qC ?_ GE155.out) | exact HB.out))) : w.heap.size ≤ gb156)); have n5_ := Aside0.mk ((by rw [hg]; exact (qP (by repeat (first | (with_reducible first | exact HB.out | apply qG | apply qD | apply qF | refine qC ?_ GE154.out | refine qC ?_ GE155.out) | exact HB.out))) : w.heap.size ≤ gb156)); have n6_ := Aside0.mk ((by rw [hg]; exact Nat.ne_of_lt (zE (g := gb154) (o := .cells #[.slice A0_0 l0_0.length c0_0, .slice A0_1 l0_1.length c0_1, .int .i64 a0_2, .int .i64 a0_3] 26 (0, 0)) (bw_ BK154.out)) : gb154 ≠ gb156)); have n7_ := Aside0.mk ((by rw [hg]; exact Nat.ne_of_gt (zE (g := gb154) (o := .cells #[.slice A0_0 l0_0.length c0_0, .slice A0_1 l0_1.length c0_1, .int .i64 a0_2, .int .i64 a0_3] 26 (0, 0)) (bw_ BK154.out)) : gb156 ≠ gb154)); have n8_ := Aside0.mk ((by rw [hg]; exact Nat.ne_of_lt (zE (g := gb155) (o := .cells #[.slice none 0 0, .slice none 0 0, .int .i64 0, .int .i64 0] 26 (0, 0)) (bw_ BK155.out)) : gb155 ≠ gb156)); have n9_ := Aside0.mk ((by rw [hg]; exact Nat.ne_of_gt (zE (g := gb155) (o := .cells #[.slice none 0 0, .slice none 0 0, .int .i64 0, .int .i64 0] 26 (0, 0)) (bw_ BK155.out)) : gb156 ≠ gb155)); clear BK154; clear BK155; clear HB; have BK154 := n0_; have BK155 := n1_; have HB := n2_; have BK156 := n3_; have GW156 := n4_; have GE156 := n5_; have NB154_156 := n6_; have NB156_154 := n7_; have NB155_156 := n8_; have NB156_155 := n9_; clear n0_ n1_ n2_ n3_ n4_ n5_ n6_ n7_ n8_ n9_; clear hb hbox hg; have hnb22 := NB156_154.out; have hnc22 := NB154_156.out; have hnb23 := NB156_155.out; have hnc23 := NB155_156.out; have hcz24_0 : w21.cell? ⟨gb156, 0, none⟩ = some (.int .i64 0) := (qA BK156.out 0).trans rfl; have hcz24_1 : w21.cell? ⟨gb156, 1, none⟩ = some (.string (⟨#[]⟩ : ByteArray)) := (qA BK156.out 1).trans rfl; have hfz24_0 := qB BK156.out 0; have hfz24_1 := qB BK156.out 1; have hnb25 := NB154_155.out; have hnc25 := NB155_154.out; have hcz26_0 : w21.cell? ⟨gb154, 0, none⟩ = some (.slice A0_0 l0_0.length c0_0) := (qA BK154.out 0).trans rfl; have hcz26_1 : w21.cell? ⟨gb154, 1, none⟩ = some (.slice A0_1 l0_1.length c0_1) := (qA BK154.out 1).trans rfl; have hcz26_2 : w21.cell? ⟨gb154, 2, none⟩ = some (.int .i64 a0_2) := (qA BK154.out 2).trans rfl; have hcz26_3 : w21.cell? ⟨gb154, 3, none⟩ = some (.int .i64 a0_3) := (qA BK154.out 3).trans rfl; have hfz26_0 := qB BK154.out 0; have hfz26_1 := qB BK154.out 1; have hfz26_2 := qB BK154.out 2; have hfz26_3 := qB BK154.out 3))
    (try simp only [Act.put, List.setIfInBounds_toArray, List.set_cons_zero, List.set_cons_succ])
    go_cut [31] (fun v31 wc => ∃ (kq : Nat) (x31_17 : Bool), v31 = .bool x31_17 ∧ Aside0 (spec_l7Write.j0 kq x31_17 l0_0 l0_1 a0_2 a0_3 a1 a2 = some (r1, r2, r3, r4, r5)) ∧ Aside0 (kq ≤ k) ∧ Aside0 (wc.heap[gb154]? = some (.cells #[(.slice A0_0 l0_0.length c0_0), (.slice A0_1 l0_1.length c0_1), .int .i64 a0_2, .int .i64 a0_3] 26 (0, 0))) ∧ Aside0 (wc.heap[gb155]? = some (.cells #[(.slice none 0 0), (.slice none 0 0), .int .i64 0, .int .i64 0] 26 (0, 0))) ∧ Aside0 (wc.heap[gb156]? = some (.cells #[.int .i64 a1, .string a2] 70 (0, 0))) ∧ Aside0 (Below w.heap.size w wc))
    case first =>
      have H := HC18.out
      clear HC18
      replace H := Option.bind_eq_some_iff.mp H
      obtain ⟨t165, A270, H⟩ := H
      replace H : (if t165 = true then (if a0_2 = 0 then (spec_l7Write.j0 k true l0_0 l0_1 a0_2 a0_3 a1 a2) else (spec_l7Write.j0 k (decide ((l0_1.length : Int) ≥ 100)) l0_0 l0_1 a0_2 a0_3 a1 a2)) else (spec_l7Write.j0 k true l0_0 l0_1 a0_2 a0_3 a1 a2)) = some (r1, r2, r3, r4, r5) := H
      have A27 := Aside0.mk A270
      clear A270
      by_cases c28 : t165 = true
      · subst c28
        have H1 : (if a0_2 = 0 then (spec_l7Write.j0 k true l0_0 l0_1 a0_2 a0_3 a1 a2) else (spec_l7Write.j0 k (decide ((l0_1.length : Int) ≥ 100)) l0_0 l0_1 a0_2 a0_3 a1 a2)) = some (r1, r2, r3, r4, r5) := by first | rfl | (rw [if_pos rfl] at H; exact H)
        clear H
        have H := H1
        clear H1
        by_cases c29 : a0_2 = 0
        · rw [if_pos c29] at H
          have c29b0 : (a0_2 == 0) = true := beq_iff_eq.mpr c29
          have c29b1 : (a0_2 != 0) = false := bne_eq_false_iff_eq.mpr c29
          clear c29
          (first | rw [c29b0] | (simp only [i64_w, i32_w]; rw [c29b0]) | skip)
          have H' := Aside0.mk H
          clear H
          have hnb30 := NB156_154.out
          have hnc30 := NB154_156.out
          have hnb31 := NB156_155.out
          have hnc31 := NB155_156.out
          have hcz32_0 : w21.cell? ⟨gb156, 0, none⟩ = some (.int .i64 0) := (qA BK156.out 0).trans rfl
          have hcz32_1 : w21.cell? ⟨gb156, 1, none⟩ = some (.string (⟨#[]⟩ : ByteArray)) := (qA BK156.out 1).trans rfl
          have hfz32_0 := qB BK156.out 0
          have hfz32_1 := qB BK156.out 1
          go_wp2_with (first | ((with_reducible refine qX (f := 67) rfl ?_); refine zM (some 19) rfl rfl Try.func67 (by kernel_rfl) rfl #[.agg #[.int .i64 a1, .string a2]] rfl (by (try simp only [List.map_toArray, List.map_cons, List.map_nil]); first | done | rfl | (simp only [List.length_drop, List.length_take]; rfl)) ?_; (with_reducible refine (spec_l7Wait.calls a1 a2 true _ A27.out).mono ?_); rintro e w33 ⟨rfl, hb⟩; refine ⟨_, rfl, ?_⟩; have n0_ := Aside0.mk (qL (g := gb154) (o := .cells #[.slice A0_0 l0_0.length c0_0, .slice A0_1 l0_1.length c0_1, .int .i64 a0_2, .int .i64 a0_3] 26 (0, 0)) (by (with_reducible repeat (first | refine qH ?_ _ | refine qI ?_ | refine qE ?_ _)); refine qR ?_ NB154_156.out _; (with_reducible repeat (first | refine qH ?_ _ | refine qI ?_ | refine qE ?_ _)); refine qR ?_ NB154_156.out _; (with_reducible repeat (first | refine qH ?_ _ | refine qI ?_ | refine qE ?_ _)); exact BK154.out) hb); have n1_ := Aside0.mk (qL (g := gb155) (o := .cells #[.slice none 0 0, .slice none 0 0, .int .i64 0, .int .i64 0] 26 (0, 0)) (by (with_reducible repeat (first | refine qH ?_ _ | refine qI ?_ | refine qE ?_ _)); refine qR ?_ NB155_156.out _; (with_reducible repeat (first | refine qH ?_ _ | refine qI ?_ | refine qE ?_ _)); refine qR ?_ NB155_156.out _; (with_reducible repeat (first | refine qH ?_ _ | refine qI ?_ | refine qE ?_ _)); exact BK155.out) hb); have n2_ := Aside0.mk (qL (g := gb156) (o := .cells #[.int .i64 a1, .string a2] 70 (0, 0)) (by (with_reducible repeat (first | refine qH ?_ _ | refine qI ?_ | refine qE ?_ _)); refine qN (cs := #[.int .i64 a1, .string (⟨#[]⟩ : ByteArray)]) ?_ 1 _ rfl; (with_reducible repeat (first | refine qH ?_ _ | refine qI ?_ | refine qE ?_ _)); refine qN (cs := #[.int .i64 0, .string (⟨#[]⟩ : ByteArray)]) ?_ 0 _ rfl; (with_reducible repeat (first | refine qH ?_ _ | refine qI ?_ | refine qE ?_ _)); exact BK156.out) hb); have n3_ := Aside0.mk (qQ (by repeat (first | (with_reducible first | exact HB.out | apply qG | apply qD | apply qF | refine qC ?_ GE154.out | refine qC ?_ GE155.out | refine qC ?_ GE156.out) | exact HB.out)) hb); clear BK154; clear BK155; clear BK156; clear HB; have BK154 := n0_; have BK155 := n1_; have BK156 := n2_; have HB := n3_; clear n0_ n1_ n2_ n3_; (try clear hb); (try clear hb2); (try clear hk); (try clear hi); have hnb34 := NB154_155.out; have hnc34 := NB155_154.out; have hcz35_0 : w33.cell? ⟨gb154, 0, none⟩ = some (.slice A0_0 l0_0.length c0_0) := (qA BK154.out 0).trans rfl; have hcz35_1 : w33.cell? ⟨gb154, 1, none⟩ = some (.slice A0_1 l0_1.length c0_1) := (qA BK154.out 1).trans rfl; have hcz35_2 : w33.cell? ⟨gb154, 2, none⟩ = some (.int .i64 a0_2) := (qA BK154.out 2).trans rfl; have hcz35_3 : w33.cell? ⟨gb154, 3, none⟩ = some (.int .i64 a0_3) := (qA BK154.out 3).trans rfl; have hfz35_0 := qB BK154.out 0; have hfz35_1 := qB BK154.out 1; have hfz35_2 := qB BK154.out 2; have hfz35_3 := qB BK154.out 3))
          go_meet
          case rel => exact ⟨_, (true), (by first | rfl | (simp; done) | (simp [*]; done)), H', ⟨by first | omega | exact Nat.le_refl _⟩, ⟨by (with_reducible repeat (first | refine qH ?_ _ | refine qI ?_ | refine qE ?_ _)); exact BK154.out⟩, ⟨by (with_reducible repeat (first | refine qH ?_ _ | refine qI ?_ | refine qE ?_ _)); exact BK155.out⟩, ⟨by (with_reducible repeat (first | refine qH ?_ _ | refine qI ?_ | refine qE ?_ _)); exact BK156.out⟩, ⟨by repeat (first | (with_reducible first | exact HB.out | apply qG | apply qD | apply qF | refine qC ?_ GE154.out | refine qC ?_ GE155.out | refine qC ?_ GE156.out) | exact HB.out)⟩⟩
        · rw [if_neg c29] at H
          have c29b0 : (a0_2 == 0) = false := beq_eq_false_iff_ne.mpr c29
          have c29b1 : (a0_2 != 0) = true := bne_iff_ne.mpr c29
          (first | rw [c29b0] | (simp only [i64_w, i32_w]; rw [c29b0]) | skip)
          have H' := Aside0.mk H
          clear H
          have hnb36 := NB156_154.out
          have hnc36 := NB154_156.out
          have hnb37 := NB156_155.out
          have hnc37 := NB155_156.out
          have hcz38_0 : w21.cell? ⟨gb156, 0, none⟩ = some (.int .i64 0) := (qA BK156.out 0).trans rfl
          have hcz38_1 : w21.cell? ⟨gb156, 1, none⟩ = some (.string (⟨#[]⟩ : ByteArray)) := (qA BK156.out 1).trans rfl
          have hfz38_0 := qB BK156.out 0
          have hfz38_1 := qB BK156.out 1
          go_wp2_with (first | ((with_reducible refine qX (f := 67) rfl ?_); refine zM (some 19) rfl rfl Try.func67 (by kernel_rfl) rfl #[.agg #[.int .i64 a1, .string a2]] rfl (by (try simp only [List.map_toArray, List.map_cons, List.map_nil]); first | done | rfl | (simp only [List.length_drop, List.length_take]; rfl)) ?_; (with_reducible refine (spec_l7Wait.calls a1 a2 true _ A27.out).mono ?_); rintro e w39 ⟨rfl, hb⟩; refine ⟨_, rfl, ?_⟩; have n0_ := Aside0.mk (qL (g := gb154) (o := .cells #[.slice A0_0 l0_0.length c0_0, .slice A0_1 l0_1.length c0_1, .int .i64 a0_2, .int .i64 a0_3] 26 (0, 0)) (by (with_reducible repeat (first | refine qH ?_ _ | refine qI ?_ | refine qE ?_ _)); refine qR ?_ NB154_156.out _; (with_reducible repeat (first | refine qH ?_ _ | refine qI ?_ | refine qE ?_ _)); refine qR ?_ NB154_156.out _; (with_reducible repeat (first | refine qH ?_ _ | refine qI ?_ | refine qE ?_ _)); exact BK154.out) hb); have n1_ := Aside0.mk (qL (g := gb155) (o := .cells #[.slice none 0 0, .slice none 0 0, .int .i64 0, .int .i64 0] 26 (0, 0)) (by (with_reducible repeat (first | refine qH ?_ _ | refine qI ?_ | refine qE ?_ _)); refine qR ?_ NB155_156.out _; (with_reducible repeat (first | refine qH ?_ _ | refine qI ?_ | refine qE ?_ _)); refine qR ?_ NB155_156.out _; (with_reducible repeat (first | refine qH ?_ _ | refine qI ?_ | refine qE ?_ _)); exact BK155.out) hb); have n2_ := Aside0.mk (qL (g := gb156) (o := .cells #[.int .i64 a1, .string a2] 70 (0, 0)) (by (with_reducible repeat (first | refine qH ?_ _ | refine qI ?_ | refine qE ?_ _)); refine qN (cs := #[.int .i64 a1, .string (⟨#[]⟩ : ByteArray)]) ?_ 1 _ rfl; (with_reducible repeat (first | refine qH ?_ _ | refine qI ?_ | refine qE ?_ _)); refine qN (cs := #[.int .i64 0, .string (⟨#[]⟩ : ByteArray)]) ?_ 0 _ rfl; (with_reducible repeat (first | refine qH ?_ _ | refine qI ?_ | refine qE ?_ _)); exact BK156.out) hb); have n3_ := Aside0.mk (qQ (by repeat (first | (with_reducible first | exact HB.out | apply qG | apply qD | apply qF | refine qC ?_ GE154.out | refine qC ?_ GE155.out | refine qC ?_ GE156.out) | exact HB.out)) hb); clear BK154; clear BK155; clear BK156; clear HB; have BK154 := n0_; have BK155 := n1_; have BK156 := n2_; have HB := n3_; clear n0_ n1_ n2_ n3_; (try clear hb); (try clear hb2); (try clear hk); (try clear hi); have hnb40 := NB154_155.out; have hnc40 := NB155_154.out; have hcz41_0 : w39.cell? ⟨gb154, 0, none⟩ = some (.slice A0_0 l0_0.length c0_0) := (qA BK154.out 0).trans rfl; have hcz41_1 : w39.cell? ⟨gb154, 1, none⟩ = some (.slice A0_1 l0_1.length c0_1) := (qA BK154.out 1).trans rfl; have hcz41_2 : w39.cell? ⟨gb154, 2, none⟩ = some (.int .i64 a0_2) := (qA BK154.out 2).trans rfl; have hcz41_3 : w39.cell? ⟨gb154, 3, none⟩ = some (.int .i64 a0_3) := (qA BK154.out 3).trans rfl; have hfz41_0 := qB BK154.out 0; have hfz41_1 := qB BK154.out 1; have hfz41_2 := qB BK154.out 2; have hfz41_3 := qB BK154.out 3))
          go_meet
          case rel => exact ⟨_, (decide ((l0_1.length : Int) ≥ 100)), (by first | rfl | (simp; done) | (simp [*]; done)), H', ⟨by first | omega | exact Nat.le_refl _⟩, ⟨by (with_reducible repeat (first | refine qH ?_ _ | refine qI ?_ | refine qE ?_ _)); exact BK154.out⟩, ⟨by (with_reducible repeat (first | refine qH ?_ _ | refine qI ?_ | refine qE ?_ _)); exact BK155.out⟩, ⟨by (with_reducible repeat (first | refine qH ?_ _ | refine qI ?_ | refine qE ?_ _)); exact BK156.out⟩, ⟨by repeat (first | (with_reducible first | exact HB.out | apply qG | apply qD | apply qF | refine qC ?_ GE154.out | refine qC ?_ GE155.out | refine qC ?_ GE156.out) | exact HB.out)⟩⟩
      · replace c28 := Bool.eq_false_iff.mpr c28
        subst c28
        have H1 : (spec_l7Write.j0 k true l0_0 l0_1 a0_2 a0_3 a1 a2) = some (r1, r2, r3, r4, r5) := by first | rfl | (rw [if_neg (show ¬ (false = true) by decide)] at H; exact H)
        clear H
        have H := H1
        clear H1
        have H' := Aside0.mk H
        clear H
        have hnb42 := NB156_154.out
        have hnc42 := NB154_156.out
        have hnb43 := NB156_155.out
        have hnc43 := NB155_156.out
        have hcz44_0 : w21.cell? ⟨gb156, 0, none⟩ = some (.int .i64 0) := (qA BK156.out 0).trans rfl
        have hcz44_1 : w21.cell? ⟨gb156, 1, none⟩ = some (.string (⟨#[]⟩ : ByteArray)) := (qA BK156.out 1).trans rfl
        have hfz44_0 := qB BK156.out 0
        have hfz44_1 := qB BK156.out 1
        go_wp2_with (first | ((with_reducible refine qX (f := 67) rfl ?_); refine zM (some 19) rfl rfl Try.func67 (by kernel_rfl) rfl #[.agg #[.int .i64 a1, .string a2]] rfl (by (try simp only [List.map_toArray, List.map_cons, List.map_nil]); first | done | rfl | (simp only [List.length_drop, List.length_take]; rfl)) ?_; (with_reducible refine (spec_l7Wait.calls a1 a2 false _ A27.out).mono ?_); rintro e w45 ⟨rfl, hb⟩; refine ⟨_, rfl, ?_⟩; have n0_ := Aside0.mk (qL (g := gb154) (o := .cells #[.slice A0_0 l0_0.length c0_0, .slice A0_1 l0_1.length c0_1, .int .i64 a0_2, .int .i64 a0_3] 26 (0, 0)) (by (with_reducible repeat (first | refine qH ?_ _ | refine qI ?_ | refine qE ?_ _)); refine qR ?_ NB154_156.out _; (with_reducible repeat (first | refine qH ?_ _ | refine qI ?_ | refine qE ?_ _)); refine qR ?_ NB154_156.out _; (with_reducible repeat (first | refine qH ?_ _ | refine qI ?_ | refine qE ?_ _)); exact BK154.out) hb); have n1_ := Aside0.mk (qL (g := gb155) (o := .cells #[.slice none 0 0, .slice none 0 0, .int .i64 0, .int .i64 0] 26 (0, 0)) (by (with_reducible repeat (first | refine qH ?_ _ | refine qI ?_ | refine qE ?_ _)); refine qR ?_ NB155_156.out _; (with_reducible repeat (first | refine qH ?_ _ | refine qI ?_ | refine qE ?_ _)); refine qR ?_ NB155_156.out _; (with_reducible repeat (first | refine qH ?_ _ | refine qI ?_ | refine qE ?_ _)); exact BK155.out) hb); have n2_ := Aside0.mk (qL (g := gb156) (o := .cells #[.int .i64 a1, .string a2] 70 (0, 0)) (by (with_reducible repeat (first | refine qH ?_ _ | refine qI ?_ | refine qE ?_ _)); refine qN (cs := #[.int .i64 a1, .string (⟨#[]⟩ : ByteArray)]) ?_ 1 _ rfl; (with_reducible repeat (first | refine qH ?_ _ | refine qI ?_ | refine qE ?_ _)); refine qN (cs := #[.int .i64 0, .string (⟨#[]⟩ : ByteArray)]) ?_ 0 _ rfl; (with_reducible repeat (first | refine qH ?_ _ | refine qI ?_ | refine qE ?_ _)); exact BK156.out) hb); have n3_ := Aside0.mk (qQ (by repeat (first | (with_reducible first | exact HB.out | apply qG | apply qD | apply qF | refine qC ?_ GE154.out | refine qC ?_ GE155.out | refine qC ?_ GE156.out) | exact HB.out)) hb); clear BK154; clear BK155; clear BK156; clear HB; have BK154 := n0_; have BK155 := n1_; have BK156 := n2_; have HB := n3_; clear n0_ n1_ n2_ n3_; (try clear hb); (try clear hb2); (try clear hk); (try clear hi)))
        go_meet
        case rel => exact ⟨_, (true), (by first | rfl | (simp; done) | (simp [*]; done)), H', ⟨by first | omega | exact Nat.le_refl _⟩, ⟨by (with_reducible repeat (first | refine qH ?_ _ | refine qI ?_ | refine qE ?_ _)); exact BK154.out⟩, ⟨by (with_reducible repeat (first | refine qH ?_ _ | refine qI ?_ | refine qE ?_ _)); exact BK155.out⟩, ⟨by (with_reducible repeat (first | refine qH ?_ _ | refine qI ?_ | refine qE ?_ _)); exact BK156.out⟩, ⟨by repeat (first | (with_reducible first | exact HB.out | apply qG | apply qD | apply qF | refine qC ?_ GE154.out | refine qC ?_ GE155.out | refine qC ?_ GE156.out) | exact HB.out)⟩⟩
    case rest =>
      clear HC18
      try clear c1
      try clear c2
      try clear p2
      try clear c3
      try clear c4
      try clear c4b0
      try clear c4b1
      try clear c6
      try clear c9
      try clear c10
      try clear c12
      try clear c22
      try clear c23
      try clear c25
      try clear c28
      try clear c29
      try clear c29b0
      try clear c29b1
      try clear c30
      try clear c31
      try clear c34
      try clear c36
      try clear c37
      try clear c38
      try clear c40
      try clear c42
      try clear c43
      try clear hcz11_0
      try clear hcz11_1
      try clear hcz13_0
      try clear hcz13_1
      try clear hcz13_2
      try clear hcz13_3
      try clear hcz16_0
      try clear hcz16_1
      try clear hcz16_2
      try clear hcz16_3
      try clear hcz24_0
      try clear hcz24_1
      try clear hcz26_0
      try clear hcz26_1
      try clear hcz26_2
      try clear hcz26_3
      try clear hcz32_0
      try clear hcz32_1
      try clear hcz35_0
      try clear hcz35_1
      try clear hcz35_2
      try clear hcz35_3
      try clear hcz38_0
      try clear hcz38_1
      try clear hcz41_0
      try clear hcz41_1
      try clear hcz41_2
      try clear hcz41_3
      try clear hcz44_0
      try clear hcz44_1
      try clear hfz11_0
      try clear hfz11_1
      try clear hfz13_0
      try clear hfz13_1
      try clear hfz13_2
      try clear hfz13_3
      try clear hfz16_0
      try clear hfz16_1
      try clear hfz16_2
      try clear hfz16_3
      try clear hfz24_0
      try clear hfz24_1
      try clear hfz26_0
      try clear hfz26_1
      try clear hfz26_2
      try clear hfz26_3
      try clear hfz32_0
      try clear hfz32_1
      try clear hfz35_0
      try clear hfz35_1
      try clear hfz35_2
      try clear hfz35_3
      try clear hfz38_0
      try clear hfz38_1
      try clear hfz41_0
      try clear hfz41_1
      try clear hfz41_2
      try clear hfz41_3
      try clear hfz44_0
      try clear hfz44_1
      obtain ⟨kq, x31_17, rfl, HA, HJ17, BK154, BK155, BK156, HB⟩ := hcut
      cases kq with
      | zero => exact absurd HA.out (by simp [spec_l7Write.j0])
      | succ kj17 =>
        have H := HA.out
        clear HA
        simp only [spec_l7Write.j0] at H
        by_cases c46 : x31_17 = true
        · subst c46
          have H1 : ((spec_l7Copy.f l0_0 l0_1 a0_2 a0_3).bind fun bt166 => (some (bt166.1, bt166.2.1, bt166.2.2.1, bt166.2.2.2, false))) = some (r1, r2, r3, r4, r5) := by first | rfl | (rw [if_pos rfl] at H; exact H)
          clear H
          have H := H1
          clear H1
          replace H := Option.bind_eq_some_iff.mp H
          obtain ⟨⟨t166, t169, t172, t173⟩, A470, H⟩ := H
          replace H : (some (t166, t169, t172, t173, false)) = some (r1, r2, r3, r4, r5) := H
          have A47 := Aside0.mk A470
          clear A470
          simp only [Option.some.injEq, Prod.mk.injEq] at H
          obtain ⟨rfl, rfl, rfl, rfl, rfl⟩ := H
          have hnb48 := NB154_155.out
          have hnc48 := NB155_154.out
          have hnb49 := NB154_156.out
          have hnc49 := NB156_154.out
          have hcz50_0 : wc.cell? ⟨gb154, 0, none⟩ = some (.slice A0_0 l0_0.length c0_0) := (qA BK154.out 0).trans rfl
          have hcz50_1 : wc.cell? ⟨gb154, 1, none⟩ = some (.slice A0_1 l0_1.length c0_1) := (qA BK154.out 1).trans rfl
          have hcz50_2 : wc.cell? ⟨gb154, 2, none⟩ = some (.int .i64 a0_2) := (qA BK154.out 2).trans rfl
          have hcz50_3 : wc.cell? ⟨gb154, 3, none⟩ = some (.int .i64 a0_3) := (qA BK154.out 3).trans rfl
          have hfz50_0 := qB BK154.out 0
          have hfz50_1 := qB BK154.out 1
          have hfz50_2 := qB BK154.out 2
          have hfz50_3 := qB BK154.out 3
          go_wp2_with (first | ((with_reducible refine qX (f := 38) rfl ?_); refine zM (some 33) rfl rfl Try.func38 (by kernel_rfl) rfl #[.agg #[.slice A0_0 l0_0.length c0_0, .slice A0_1 l0_1.length c0_1, .int .i64 a0_2, .int .i64 a0_3]] rfl (by (try simp only [List.map_toArray, List.map_cons, List.map_nil]); first | done | rfl | (simp only [List.length_drop, List.length_take]; rfl)) ?_; (with_reducible refine (spec_l7Copy.calls _ _ l0_0 _ _ l0_1 a0_2 a0_3 t166 t169 t172 t173 _ ?side1 ?side2 ?side3 ?side4 A47.out).mono ?_); (case side1 => repeat (first | exact (Kd.zH HR0_0.out HB.out) | (with_reducible refine Kd.zF ?_ _) | (with_reducible refine Kd.zG ?_ _) | (with_reducible refine Kd.zL ?_))); (case side2 => exact HC0_0.out); (case side3 => repeat (first | exact (Kd.zH HR0_1.out HB.out) | (with_reducible refine Kd.zF ?_ _) | (with_reducible refine Kd.zG ?_ _) | (with_reducible refine Kd.zL ?_))); (case side4 => exact HC0_1.out); rintro e w51 ⟨v167, v170, rfl, ho0, ho1, hb⟩; refine ⟨_, rfl, ?_⟩; have n0_ := Aside0.mk (Kd.zJ ho0 (qP (by repeat (first | (with_reducible first | exact HB.out | apply qG | apply qD | apply qF | refine qC ?_ GE154.out | refine qC ?_ GE155.out | refine qC ?_ GE156.out) | exact HB.out)))); have n1_ := Aside0.mk (Kd.zJ (Kd.R_newB ho1 (g := gb156) (o := .cells #[.int .i64 a1, .string a2] 70 (0, 0)) (bw_ BK156.out)) (qP (by repeat (first | (with_reducible first | exact HB.out | apply qG | apply qD | apply qF | refine qC ?_ GE154.out | refine qC ?_ GE155.out | refine qC ?_ GE156.out) | exact HB.out)))); have n2_ := Aside0.mk (qL (g := gb154) (o := .cells #[.slice A0_0 l0_0.length c0_0, .slice A0_1 l0_1.length c0_1, .int .i64 a0_2, .int .i64 a0_3] 26 (0, 0)) (bw_ BK154.out) hb); have n3_ := Aside0.mk (qL (g := gb155) (o := .cells #[.slice none 0 0, .slice none 0 0, .int .i64 0, .int .i64 0] 26 (0, 0)) (bw_ BK155.out) hb); have n4_ := Aside0.mk (qL (g := gb156) (o := .cells #[.int .i64 a1, .string a2] 70 (0, 0)) (bw_ BK156.out) hb); have n5_ := Aside0.mk (qQ (by repeat (first | (with_reducible first | exact HB.out | apply qG | apply qD | apply qF | refine qC ?_ GE154.out | refine qC ?_ GE155.out | refine qC ?_ GE156.out) | exact HB.out)) hb); clear BK154; clear BK155; clear BK156; clear HB; have HO168 := n0_; have HO171 := n1_; have BK154 := n2_; have BK155 := n3_; have BK156 := n4_; have HB := n5_; clear n0_ n1_ n2_ n3_ n4_ n5_; (try clear hb); (try clear hb2); (try clear hk); (try clear hi); (try clear ho0); (try clear ho1); obtain ⟨Ao52, co52, eo52⟩ := Kd.zD HO168.out; subst eo52; have hnb53 := NB155_156.out; have hnc53 := NB156_155.out; have hcz54_0 : w51.cell? ⟨gb155, 0, none⟩ = some (.slice none 0 0) := (qA BK155.out 0).trans rfl; have hcz54_1 : w51.cell? ⟨gb155, 1, none⟩ = some (.slice none 0 0) := (qA BK155.out 1).trans rfl; have hcz54_2 : w51.cell? ⟨gb155, 2, none⟩ = some (.int .i64 0) := (qA BK155.out 2).trans rfl; have hcz54_3 : w51.cell? ⟨gb155, 3, none⟩ = some (.int .i64 0) := (qA BK155.out 3).trans rfl; have hfz54_0 := qB BK155.out 0; have hfz54_1 := qB BK155.out 1; have hfz54_2 := qB BK155.out 2; have hfz54_3 := qB BK155.out 3; obtain ⟨Ao55, co55, eo55⟩ := Kd.zD HO171.out; subst eo55))
          refine bodyPost_ret (results_ct rfl _ _ gb155 26 #[.slice Ao52 t166.length co52, .slice Ao55 t169.length co55, .int .i64 t172, .int .i64 t173] (0, 0) _ rfl (by (with_reducible repeat (first | refine qH ?_ _ | refine qI ?_ | refine qE ?_ _)); refine qN (cs := #[.slice Ao52 t166.length co52, .slice Ao55 t169.length co55, .int .i64 t172, .int .i64 0]) ?_ 3 _ rfl; (with_reducible repeat (first | refine qH ?_ _ | refine qI ?_ | refine qE ?_ _)); refine qN (cs := #[.slice Ao52 t166.length co52, .slice Ao55 t169.length co55, .int .i64 0, .int .i64 0]) ?_ 2 _ rfl; (with_reducible repeat (first | refine qH ?_ _ | refine qI ?_ | refine qE ?_ _)); refine qN (cs := #[.slice Ao52 t166.length co52, .slice none 0 0, .int .i64 0, .int .i64 0]) ?_ 1 _ rfl; (with_reducible repeat (first | refine qH ?_ _ | refine qI ?_ | refine qE ?_ _)); refine qN (cs := #[.slice none 0 0, .slice none 0 0, .int .i64 0, .int .i64 0]) ?_ 0 _ rfl; (with_reducible repeat (first | refine qH ?_ _ | refine qI ?_ | refine qE ?_ _)); exact BK155.out) Try.underlying26 rfl (by kernel_rfl)) rfl ?_
          exact ⟨_, _, by first | rfl | (simp [errW_none, errW_some] <;> rfl) | (simp [*, errW_none, errW_some] <;> rfl), by (with_reducible repeat (first | apply Kd.qU | apply Kd.qT | apply Kd.qV)); exact Kd.qS (Kd.R_far (p := ⟨gb155, 3, none⟩) (Kd.R_far (p := ⟨gb155, 2, none⟩) (Kd.R_far (p := ⟨gb155, 1, none⟩) (Kd.R_far (p := ⟨gb155, 0, none⟩) (Kd.qW HO168.out BK155.out (by decide)) (fun _ hk => hk.2) (.slice Ao52 t166.length co52)) (fun _ hk => hk.2) (.slice Ao55 t169.length co55)) (fun _ hk => hk.2) (.int .i64 t172)) (fun _ hk => hk.2) (.int .i64 t173)) (fun _ hk => trivial), by (with_reducible repeat (first | apply Kd.qU | apply Kd.qT | apply Kd.qV)); exact Kd.qS (Kd.R_far (p := ⟨gb155, 3, none⟩) (Kd.R_far (p := ⟨gb155, 2, none⟩) (Kd.R_far (p := ⟨gb155, 1, none⟩) (Kd.R_far (p := ⟨gb155, 0, none⟩) (Kd.qW HO171.out BK155.out (by decide)) (fun _ hk => hk.2) (.slice Ao52 t166.length co52)) (fun _ hk => hk.2) (.slice Ao55 t169.length co55)) (fun _ hk => hk.2) (.int .i64 t172)) (fun _ hk => hk.2) (.int .i64 t173)) (fun _ hk => trivial), by repeat (first | (with_reducible first | exact HB.out | apply qG | apply qD | apply qF | refine qC ?_ GE154.out | refine qC ?_ GE155.out | refine qC ?_ GE156.out) | exact HB.out)⟩
        · replace c46 := Bool.eq_false_iff.mpr c46
          subst c46
          have H1 : ((spec_l7Copy.f l0_0 l0_1 a0_2 a0_3).bind fun bt174 => (if bt174.2.1.length < 5864062014805 then ((spec_l7Less.f a0_3).bind fun t186 => ((spec_l7Less.f a0_2).bind fun t187 => (some (bt174.1, (bt174.2.1 ++ [(⟨a1, a2⟩ : S70)]), t187, t186, true)))) else (none))) = some (r1, r2, r3, r4, r5) := by first | rfl | (rw [if_neg (show ¬ (false = true) by decide)] at H; exact H)
          clear H
          have H := H1
          clear H1
          replace H := Option.bind_eq_some_iff.mp H
          obtain ⟨⟨t174, t177, t180, t181⟩, A560, H⟩ := H
          replace H : (if t177.length < 5864062014805 then ((spec_l7Less.f a0_3).bind fun t186 => ((spec_l7Less.f a0_2).bind fun t187 => (some (t174, (t177 ++ [(⟨a1, a2⟩ : S70)]), t187, t186, true)))) else (none)) = some (r1, r2, r3, r4, r5) := H
          have A56 := Aside0.mk A560
          clear A560
          by_cases c57 : t177.length < 5864062014805
          · rw [if_pos c57] at H
            have LMc57 := Aside0.mk c57
            clear c57
            obtain ⟨y183, hy183⟩ : ∃ y_ : List (S70), y_ = (t177 ++ [(⟨a1, a2⟩ : S70)]) := ⟨_, rfl⟩
            replace H : ((spec_l7Less.f a0_3).bind fun t186 => ((spec_l7Less.f a0_2).bind fun t187 => (some (t174, y183, t187, t186, true)))) = some (r1, r2, r3, r4, r5) := by first | (rw [hy183]; with_reducible exact H) | (have H2_ := (Option.bind_some _ _).symm.trans H; rw [hy183]; with_reducible exact H2_) | (have H2_ := (Option.bind_some _ _).symm.trans H; with_reducible exact H2_) | with_reducible exact H | (rw [hy183]; exact H) | exact H
            have Ny183 := Aside0.mk hy183
            clear hy183
            replace H := Option.bind_eq_some_iff.mp H
            obtain ⟨t186, A580, H⟩ := H
            replace H : ((spec_l7Less.f a0_2).bind fun t187 => (some (t174, y183, t187, t186, true))) = some (r1, r2, r3, r4, r5) := H
            have A58 := Aside0.mk A580
            clear A580
            replace H := Option.bind_eq_some_iff.mp H
            obtain ⟨t187, A590, H⟩ := H
            replace H : (some (t174, y183, t187, t186, true)) = some (r1, r2, r3, r4, r5) := H
            have A59 := Aside0.mk A590
            clear A590
            simp only [Option.some.injEq, Prod.mk.injEq] at H
            obtain ⟨rfl, rfl, rfl, rfl, rfl⟩ := H
            have hnb60 := NB154_155.out
            have hnc60 := NB155_154.out
            have hnb61 := NB154_156.out
            have hnc61 := NB156_154.out
            have hcz62_0 : wc.cell? ⟨gb154, 0, none⟩ = some (.slice A0_0 l0_0.length c0_0) := (qA BK154.out 0).trans rfl
            have hcz62_1 : wc.cell? ⟨gb154, 1, none⟩ = some (.slice A0_1 l0_1.length c0_1) := (qA BK154.out 1).trans rfl
            have hcz62_2 : wc.cell? ⟨gb154, 2, none⟩ = some (.int .i64 a0_2) := (qA BK154.out 2).trans rfl
            have hcz62_3 : wc.cell? ⟨gb154, 3, none⟩ = some (.int .i64 a0_3) := (qA BK154.out 3).trans rfl
            have hfz62_0 := qB BK154.out 0
            have hfz62_1 := qB BK154.out 1
            have hfz62_2 := qB BK154.out 2
            have hfz62_3 := qB BK154.out 3
            go_wp2_with (first | ((with_reducible refine qX (f := 38) rfl ?_); refine zM (some 35) rfl rfl Try.func38 (by kernel_rfl) rfl #[.agg #[.slice A0_0 l0_0.length c0_0, .slice A0_1 l0_1.length c0_1, .int .i64 a0_2, .int .i64 a0_3]] rfl (by (try simp only [List.map_toArray, List.map_cons, List.map_nil]); first | done | rfl | (simp only [List.length_drop, List.length_take]; rfl)) ?_; (with_reducible refine (spec_l7Copy.calls _ _ l0_0 _ _ l0_1 a0_2 a0_3 t174 t177 t180 t181 _ ?side1 ?side2 ?side3 ?side4 A56.out).mono ?_); (case side1 => repeat (first | exact (Kd.zH HR0_0.out HB.out) | (with_reducible refine Kd.zF ?_ _) | (with_reducible refine Kd.zG ?_ _) | (with_reducible refine Kd.zL ?_))); (case side2 => exact HC0_0.out); (case side3 => repeat (first | exact (Kd.zH HR0_1.out HB.out) | (with_reducible refine Kd.zF ?_ _) | (with_reducible refine Kd.zG ?_ _) | (with_reducible refine Kd.zL ?_))); (case side4 => exact HC0_1.out); rintro e w63 ⟨v175, v178, rfl, ho0, ho1, hb⟩; refine ⟨_, rfl, ?_⟩; have n0_ := Aside0.mk (Kd.zJ ho0 (qP (by repeat (first | (with_reducible first | exact HB.out | apply qG | apply qD | apply qF | refine qC ?_ GE154.out | refine qC ?_ GE155.out | refine qC ?_ GE156.out) | exact HB.out)))); have n1_ := Aside0.mk (Kd.zJ (Kd.R_newB ho1 (g := gb156) (o := .cells #[.int .i64 a1, .string a2] 70 (0, 0)) (bw_ BK156.out)) (qP (by repeat (first | (with_reducible first | exact HB.out | apply qG | apply qD | apply qF | refine qC ?_ GE154.out | refine qC ?_ GE155.out | refine qC ?_ GE156.out) | exact HB.out)))); have n2_ := Aside0.mk (qL (g := gb154) (o := .cells #[.slice A0_0 l0_0.length c0_0, .slice A0_1 l0_1.length c0_1, .int .i64 a0_2, .int .i64 a0_3] 26 (0, 0)) (bw_ BK154.out) hb); have n3_ := Aside0.mk (qL (g := gb155) (o := .cells #[.slice none 0 0, .slice none 0 0, .int .i64 0, .int .i64 0] 26 (0, 0)) (bw_ BK155.out) hb); have n4_ := Aside0.mk (qL (g := gb156) (o := .cells #[.int .i64 a1, .string a2] 70 (0, 0)) (bw_ BK156.out) hb); have n5_ := Aside0.mk (qQ (by repeat (first | (with_reducible first | exact HB.out | apply qG | apply qD | apply qF | refine qC ?_ GE154.out | refine qC ?_ GE155.out | refine qC ?_ GE156.out) | exact HB.out)) hb); clear BK154; clear BK155; clear BK156; clear HB; have HO176 := n0_; have HO179 := n1_; have BK154 := n2_; have BK155 := n3_; have BK156 := n4_; have HB := n5_; clear n0_ n1_ n2_ n3_ n4_ n5_; (try clear hb); (try clear hb2); (try clear hk); (try clear hi); (try clear ho0); (try clear ho1)) | ((with_reducible refine qZ (N := 9) rfl ?_); refine qY ?hg (N := 9) ?hd (cs := #[.slice none 0 0, .slice none 0 0, .int .i64 0, .int .i64 0]) (t := 26) ?hr ?_; (case hd => rfl); (case hg => rfl); (case hr => first | (go_simp; done) | (go_simp; rfl)); intro gb182 hg w64 hbox hb; have n0_ := Aside0.mk (Kd.zB (rw_ HO176.out) hb); have n1_ := Aside0.mk (Kd.zB (rw_ HO179.out) hb); have n2_ := Aside0.mk (qL (g := gb154) (o := .cells #[.slice A0_0 l0_0.length c0_0, .slice A0_1 l0_1.length c0_1, .int .i64 a0_2, .int .i64 a0_3] 26 (0, 0)) (bw_ BK154.out) hb); have n3_ := Aside0.mk (qL (g := gb155) (o := .cells #[.slice none 0 0, .slice none 0 0, .int .i64 0, .int .i64 0] 26 (0, 0)) (bw_ BK155.out) hb); have n4_ := Aside0.mk (qL (g := gb156) (o := .cells #[.int .i64 a1, .string a2] 70 (0, 0)) (bw_ BK156.out) hb); have n5_ := Aside0.mk (qQ (by repeat (first | (with_reducible first | exact HB.out | apply qG | apply qD | apply qF | refine qC ?_ GE154.out | refine qC ?_ GE155.out | refine qC ?_ GE156.out) | exact HB.out)) hb); have n6_ := Aside0.mk (hbox); have n7_ := Aside0.mk ((by rw [hg]; exact (qP (by repeat (first | (with_reducible first | exact HB.out | apply qG | apply qD | apply qF | refine qC ?_ GE154.out | refine qC ?_ GE155.out | refine qC ?_ GE156.out) | exact HB.out))) : w.heap.size ≤ gb182)); have n8_ := Aside0.mk ((by rw [hg]; exact (qP (by repeat (first | (with_reducible first | exact HB.out | apply qG | apply qD | apply qF | refine qC ?_ GE154.out | refine qC ?_ GE155.out | refine qC ?_ GE156.out) | exact HB.out))) : w.heap.size ≤ gb182)); have n9_ := Aside0.mk ((by rw [hg]; exact Nat.ne_of_lt (zE (g := gb154) (o := .cells #[.slice A0_0 l0_0.length c0_0, .slice A0_1 l0_1.length c0_1, .int .i64 a0_2, .int .i64 a0_3] 26 (0, 0)) (bw_ BK154.out)) : gb154 ≠ gb182)); have n10_ := Aside0.mk ((by rw [hg]; exact Nat.ne_of_gt (zE (g := gb154) (o := .cells #[.slice A0_0 l0_0.length c0_0, .slice A0_1 l0_1.length c0_1, .int .i64 a0_2, .int .i64 a0_3] 26 (0, 0)) (bw_ BK154.out)) : gb182 ≠ gb154)); have n11_ := Aside0.mk ((by rw [hg]; exact Nat.ne_of_lt (zE (g := gb155) (o := .cells #[.slice none 0 0, .slice none 0 0, .int .i64 0, .int .i64 0] 26 (0, 0)) (bw_ BK155.out)) : gb155 ≠ gb182)); have n12_ := Aside0.mk ((by rw [hg]; exact Nat.ne_of_gt (zE (g := gb155) (o := .cells #[.slice none 0 0, .slice none 0 0, .int .i64 0, .int .i64 0] 26 (0, 0)) (bw_ BK155.out)) : gb182 ≠ gb155)); have n13_ := Aside0.mk ((by rw [hg]; exact Nat.ne_of_lt (zE (g := gb156) (o := .cells #[.int .i64 a1, .string a2] 70 (0, 0)) (bw_ BK156.out)) : gb156 ≠ gb182)); have n14_ := Aside0.mk ((by rw [hg]; exact Nat.ne_of_gt (zE (g := gb156) (o := .cells #[.int .i64 a1, .string a2] 70 (0, 0)) (bw_ BK156.out)) : gb182 ≠ gb156)); clear HO176; clear HO179; clear BK154; clear BK155; clear BK156; clear HB; have HO176 := n0_; have HO179 := n1_; have BK154 := n2_; have BK155 := n3_; have BK156 := n4_; have HB := n5_; have BK182 := n6_; have GW182 := n7_; have GE182 := n8_; have NB154_182 := n9_; have NB182_154 := n10_; have NB155_182 := n11_; have NB182_155 := n12_; have NB156_182 := n13_; have NB182_156 := n14_; clear n0_ n1_ n2_ n3_ n4_ n5_ n6_ n7_ n8_ n9_ n10_ n11_ n12_ n13_ n14_; clear hb hbox hg; obtain ⟨Ao65, co65, eo65⟩ := Kd.zD HO176.out; subst eo65; have hnb66 := NB182_154.out; have hnc66 := NB154_182.out; have hnb67 := NB182_155.out; have hnc67 := NB155_182.out; have hnb68 := NB182_156.out; have hnc68 := NB156_182.out; have hcz69_0 : w64.cell? ⟨gb182, 0, none⟩ = some (.slice none 0 0) := (qA BK182.out 0).trans rfl; have hcz69_1 : w64.cell? ⟨gb182, 1, none⟩ = some (.slice none 0 0) := (qA BK182.out 1).trans rfl; have hcz69_2 : w64.cell? ⟨gb182, 2, none⟩ = some (.int .i64 0) := (qA BK182.out 2).trans rfl; have hcz69_3 : w64.cell? ⟨gb182, 3, none⟩ = some (.int .i64 0) := (qA BK182.out 3).trans rfl; have hfz69_0 := qB BK182.out 0; have hfz69_1 := qB BK182.out 1; have hfz69_2 := qB BK182.out 2; have hfz69_3 := qB BK182.out 3; obtain ⟨Ao70, co70, eo70⟩ := Kd.zD HO179.out; subst eo70; have hnb71 := NB156_155.out; have hnc71 := NB155_156.out; have hcz72_0 : w64.cell? ⟨gb156, 0, none⟩ = some (.int .i64 a1) := (qA BK156.out 0).trans rfl; have hcz72_1 : w64.cell? ⟨gb156, 1, none⟩ = some (.string a2) := (qA BK156.out 1).trans rfl; have hfz72_0 := qB BK156.out 0; have hfz72_1 := qB BK156.out 1) | ((with_reducible refine xD (b := .append) (xs := #[.tmp 37, .tmp 39]) rfl ?_); at_builtin; refine Kd.R_append k70 (w0 := w) w.heap.size rfl (.tmp 37) (.tmp 39) 24 70 (.agg #[(.int .i64 0), (.string ⟨#[]⟩)]) 24 rfl Try.underlying24 info70 rfl (by decide) (by omega) (.slice Ao70 t177.length co70) t177 (⟨a1, a2⟩ : S70) [.int .i64 a1, .string a2] (fun k_ => k_ ≠ gb156) (fun _ => False) rfl (by first | (go_simp; done) | (go_simp; rfl)) ?aP (fun _ hk => hk.elim) ?aF ?aO ?aB ?aS ?aL ?_; (case aP => exact k70_mkM _ _ _ (⟨a1, a2⟩ : S70)); (case aB => exact (by repeat (first | (with_reducible first | exact HB.out | apply qG | apply qD | apply qF | refine qC ?_ GE154.out | refine qC ?_ GE155.out | refine qC ?_ GE156.out | refine qC ?_ GE182.out) | exact HB.out))); (case aF => exact (fun k_ hk => Kd.freshB (g := gb156) (o := .cells #[.int .i64 a1, .string a2] 70 (0, 0)) (by (with_reducible repeat (first | refine qH ?_ _ | refine qI ?_ | refine qE ?_ _)); refine qR ?_ NB156_182.out _; (with_reducible repeat (first | refine qH ?_ _ | refine qI ?_ | refine qE ?_ _)); refine qR ?_ NB156_182.out _; (with_reducible repeat (first | refine qH ?_ _ | refine qI ?_ | refine qE ?_ _)); refine qR ?_ NB156_182.out _; (with_reducible repeat (first | refine qH ?_ _ | refine qI ?_ | refine qE ?_ _)); refine qR ?_ NB156_182.out _; (with_reducible repeat (first | refine qH ?_ _ | refine qI ?_ | refine qE ?_ _)); exact BK156.out) k_ hk)); (case aO => exact (by (with_reducible repeat (first | apply Kd.qU | apply Kd.qT | apply Kd.qV)); exact Kd.qS (Kd.R_far (p := ⟨gb182, 3, none⟩) (Kd.R_far (p := ⟨gb182, 2, none⟩) (Kd.R_far (p := ⟨gb182, 1, none⟩) (Kd.R_far (p := ⟨gb182, 0, none⟩) (Kd.qW HO179.out BK182.out (by decide)) (fun _ hk => hk.2) (.slice Ao65 t174.length co65)) (fun _ hk => hk.2) (.slice Ao70 t177.length co70)) (fun _ hk => hk.2) (.int .i64 t180)) (fun _ hk => hk.2) (.int .i64 t181)) (fun _ hk => hk.1.2))); (case aS => exact (qP (by repeat (first | (with_reducible first | exact HB.out | apply qG | apply qD | apply qF | refine qC ?_ GE154.out | refine qC ?_ GE155.out | refine qC ?_ GE156.out | refine qC ?_ GE182.out) | exact HB.out)))); (case aL => have := LMc57.out; omega); intro v184 w73 ho hb hg hat; rw [← Ny183.out] at ho; have n0_ := Aside0.mk (zV (g := gb154) (o := .cells #[.slice A0_0 l0_0.length c0_0, .slice A0_1 l0_1.length c0_1, .int .i64 a0_2, .int .i64 a0_3] 26 (0, 0)) (by (with_reducible repeat (first | refine qH ?_ _ | refine qI ?_ | refine qE ?_ _)); refine qR ?_ NB154_182.out _; (with_reducible repeat (first | refine qH ?_ _ | refine qI ?_ | refine qE ?_ _)); refine qR ?_ NB154_182.out _; (with_reducible repeat (first | refine qH ?_ _ | refine qI ?_ | refine qE ?_ _)); refine qR ?_ NB154_182.out _; (with_reducible repeat (first | refine qH ?_ _ | refine qI ?_ | refine qE ?_ _)); refine qR ?_ NB154_182.out _; (with_reducible repeat (first | refine qH ?_ _ | refine qI ?_ | refine qE ?_ _)); exact BK154.out) hg (Kd.R_ne HO179.out BK154.out (by decide))); have n1_ := Aside0.mk (zV (g := gb155) (o := .cells #[.slice none 0 0, .slice none 0 0, .int .i64 0, .int .i64 0] 26 (0, 0)) (by (with_reducible repeat (first | refine qH ?_ _ | refine qI ?_ | refine qE ?_ _)); refine qR ?_ NB155_182.out _; (with_reducible repeat (first | refine qH ?_ _ | refine qI ?_ | refine qE ?_ _)); refine qR ?_ NB155_182.out _; (with_reducible repeat (first | refine qH ?_ _ | refine qI ?_ | refine qE ?_ _)); refine qR ?_ NB155_182.out _; (with_reducible repeat (first | refine qH ?_ _ | refine qI ?_ | refine qE ?_ _)); refine qR ?_ NB155_182.out _; (with_reducible repeat (first | refine qH ?_ _ | refine qI ?_ | refine qE ?_ _)); exact BK155.out) hg (Kd.R_ne HO179.out BK155.out (by decide))); have n2_ := Aside0.mk (zV (g := gb156) (o := .cells #[.int .i64 a1, .string a2] 70 (0, 0)) (by (with_reducible repeat (first | refine qH ?_ _ | refine qI ?_ | refine qE ?_ _)); refine qR ?_ NB156_182.out _; (with_reducible repeat (first | refine qH ?_ _ | refine qI ?_ | refine qE ?_ _)); refine qR ?_ NB156_182.out _; (with_reducible repeat (first | refine qH ?_ _ | refine qI ?_ | refine qE ?_ _)); refine qR ?_ NB156_182.out _; (with_reducible repeat (first | refine qH ?_ _ | refine qI ?_ | refine qE ?_ _)); refine qR ?_ NB156_182.out _; (with_reducible repeat (first | refine qH ?_ _ | refine qI ?_ | refine qE ?_ _)); exact BK156.out) hg (Kd.R_away HO179.out (fun _ hk => hk.2))); have n3_ := Aside0.mk (Kd.R_over' (by (with_reducible repeat (first | apply Kd.qU | apply Kd.qT | apply Kd.qV)); exact (Kd.qS (Kd.R_far (p := ⟨gb182, 3, none⟩) (Kd.R_far (p := ⟨gb182, 2, none⟩) (Kd.R_far (p := ⟨gb182, 1, none⟩) (Kd.R_far (p := ⟨gb182, 0, none⟩) (Kd.qW HO176.out BK182.out (by decide)) (fun _ hk => hk.2) (.slice Ao65 t174.length co65)) (fun _ hk => hk.2) (.slice Ao70 t177.length co70)) (fun _ hk => hk.2) (.int .i64 t180)) (fun _ hk => hk.2) (.int .i64 t181)) (fun _ h_ => h_.1))) (Kd.R_typed (by (with_reducible repeat (first | apply Kd.qU | apply Kd.qT | apply Kd.qV)); exact (Kd.qS (Kd.R_far (p := ⟨gb182, 3, none⟩) (Kd.R_far (p := ⟨gb182, 2, none⟩) (Kd.R_far (p := ⟨gb182, 1, none⟩) (Kd.R_far (p := ⟨gb182, 0, none⟩) (Kd.qW HO179.out BK182.out (by decide)) (fun _ hk => hk.2) (.slice Ao65 t174.length co65)) (fun _ hk => hk.2) (.slice Ao70 t177.length co70)) (fun _ hk => hk.2) (.int .i64 t180)) (fun _ hk => hk.2) (.int .i64 t181)) (fun _ h_ => h_.1)))) (by decide) hg); have n4_ := Aside0.mk (zV (g := gb182) (o := .cells #[.slice Ao65 t174.length co65, .slice Ao70 t177.length co70, .int .i64 t180, .int .i64 t181] 26 (0, 0)) (by (with_reducible repeat (first | refine qH ?_ _ | refine qI ?_ | refine qE ?_ _)); refine qN (cs := #[.slice Ao65 t174.length co65, .slice Ao70 t177.length co70, .int .i64 t180, .int .i64 0]) ?_ 3 _ rfl; (with_reducible repeat (first | refine qH ?_ _ | refine qI ?_ | refine qE ?_ _)); refine qN (cs := #[.slice Ao65 t174.length co65, .slice Ao70 t177.length co70, .int .i64 0, .int .i64 0]) ?_ 2 _ rfl; (with_reducible repeat (first | refine qH ?_ _ | refine qI ?_ | refine qE ?_ _)); refine qN (cs := #[.slice Ao65 t174.length co65, .slice none 0 0, .int .i64 0, .int .i64 0]) ?_ 1 _ rfl; (with_reducible repeat (first | refine qH ?_ _ | refine qI ?_ | refine qE ?_ _)); refine qN (cs := #[.slice none 0 0, .slice none 0 0, .int .i64 0, .int .i64 0]) ?_ 0 _ rfl; (with_reducible repeat (first | refine qH ?_ _ | refine qI ?_ | refine qE ?_ _)); exact BK182.out) hg (Kd.R_ne HO179.out BK182.out (by decide))); have n5_ := Aside0.mk (hb); have n6_ := Aside0.mk (ho); clear BK154; clear BK155; clear BK156; clear HO176; clear BK182; clear HB; clear HO179; have BK154 := n0_; have BK155 := n1_; have BK156 := n2_; have HO176 := n3_; have BK182 := n4_; have HB := n5_; have HO185 := n6_; clear n0_ n1_ n2_ n3_ n4_ n5_ n6_; clear ho hb hg hat; obtain ⟨Ao74, co74, eo74⟩ := Kd.zD HO185.out; subst eo74; have hcz75_0 : w73.cell? ⟨gb182, 0, none⟩ = some (.slice Ao65 t174.length co65) := (qA BK182.out 0).trans rfl; have hcz75_1 : w73.cell? ⟨gb182, 1, none⟩ = some (.slice Ao70 t177.length co70) := (qA BK182.out 1).trans rfl; have hcz75_2 : w73.cell? ⟨gb182, 2, none⟩ = some (.int .i64 t180) := (qA BK182.out 2).trans rfl; have hcz75_3 : w73.cell? ⟨gb182, 3, none⟩ = some (.int .i64 t181) := (qA BK182.out 3).trans rfl; have hfz75_0 := qB BK182.out 0; have hfz75_1 := qB BK182.out 1; have hfz75_2 := qB BK182.out 2; have hfz75_3 := qB BK182.out 3; have hcz76_0 : w73.cell? ⟨gb154, 0, none⟩ = some (.slice A0_0 l0_0.length c0_0) := (qA BK154.out 0).trans rfl; have hcz76_1 : w73.cell? ⟨gb154, 1, none⟩ = some (.slice A0_1 l0_1.length c0_1) := (qA BK154.out 1).trans rfl; have hcz76_2 : w73.cell? ⟨gb154, 2, none⟩ = some (.int .i64 a0_2) := (qA BK154.out 2).trans rfl; have hcz76_3 : w73.cell? ⟨gb154, 3, none⟩ = some (.int .i64 a0_3) := (qA BK154.out 3).trans rfl; have hfz76_0 := qB BK154.out 0; have hfz76_1 := qB BK154.out 1; have hfz76_2 := qB BK154.out 2; have hfz76_3 := qB BK154.out 3) | ((with_reducible refine qX (f := 69) rfl ?_); refine zM (some 44) rfl rfl Try.func69 (by kernel_rfl) rfl #[.int .i64 a0_3] rfl (by (try simp only [List.map_toArray, List.map_cons, List.map_nil]); first | done | rfl | (simp only [List.length_drop, List.length_take]; rfl)) ?_; (with_reducible refine (spec_l7Less.calls a0_3 t186 _ A58.out).mono ?_); rintro e w' ⟨rfl, ⟨nd, rfl⟩⟩; refine ⟨_, rfl, ?_⟩) | ((with_reducible refine qX (f := 69) rfl ?_); refine zM (some 48) rfl rfl Try.func69 (by kernel_rfl) rfl #[.int .i64 a0_2] rfl (by (try simp only [List.map_toArray, List.map_cons, List.map_nil]); first | done | rfl | (simp only [List.length_drop, List.length_take]; rfl)) ?_; (with_reducible refine (spec_l7Less.calls a0_2 t187 _ A59.out).mono ?_); rintro e w' ⟨rfl, ⟨nd, rfl⟩⟩; refine ⟨_, rfl, ?_⟩; have hcz77_0 : w73.cell? ⟨gb155, 0, none⟩ = some (.slice none 0 0) := (qA BK155.out 0).trans rfl; have hcz77_1 : w73.cell? ⟨gb155, 1, none⟩ = some (.slice none 0 0) := (qA BK155.out 1).trans rfl; have hcz77_2 : w73.cell? ⟨gb155, 2, none⟩ = some (.int .i64 0) := (qA BK155.out 2).trans rfl; have hcz77_3 : w73.cell? ⟨gb155, 3, none⟩ = some (.int .i64 0) := (qA BK155.out 3).trans rfl; have hfz77_0 := qB BK155.out 0; have hfz77_1 := qB BK155.out 1; have hfz77_2 := qB BK155.out 2; have hfz77_3 := qB BK155.out 3))
            refine bodyPost_ret (results_ct rfl _ _ gb155 26 #[.slice Ao65 t174.length co65, .slice Ao74 y183.length co74, .int .i64 t187, .int .i64 t186] (0, 0) _ rfl (by (with_reducible repeat (first | refine qH ?_ _ | refine qI ?_ | refine qE ?_ _)); refine qN (cs := #[.slice Ao65 t174.length co65, .slice Ao74 y183.length co74, .int .i64 t187, .int .i64 0]) ?_ 3 _ rfl; (with_reducible repeat (first | refine qH ?_ _ | refine qI ?_ | refine qE ?_ _)); refine qN (cs := #[.slice Ao65 t174.length co65, .slice Ao74 y183.length co74, .int .i64 0, .int .i64 0]) ?_ 2 _ rfl; (with_reducible repeat (first | refine qH ?_ _ | refine qI ?_ | refine qE ?_ _)); refine qN (cs := #[.slice Ao65 t174.length co65, .slice none 0 0, .int .i64 0, .int .i64 0]) ?_ 1 _ rfl; (with_reducible repeat (first | refine qH ?_ _ | refine qI ?_ | refine qE ?_ _)); refine qN (cs := #[.slice none 0 0, .slice none 0 0, .int .i64 0, .int .i64 0]) ?_ 0 _ rfl; (with_reducible repeat (first | refine qH ?_ _ | refine qI ?_ | refine qE ?_ _)); refine qR ?_ NB155_182.out _; (with_reducible repeat (first | refine qH ?_ _ | refine qI ?_ | refine qE ?_ _)); refine qR ?_ NB155_182.out _; (with_reducible repeat (first | refine qH ?_ _ | refine qI ?_ | refine qE ?_ _)); refine qR ?_ NB155_182.out _; (with_reducible repeat (first | refine qH ?_ _ | refine qI ?_ | refine qE ?_ _)); exact BK155.out) Try.underlying26 rfl (by kernel_rfl)) rfl ?_
            exact ⟨_, _, by first | rfl | (simp [errW_none, errW_some] <;> rfl) | (simp [*, errW_none, errW_some] <;> rfl), by (with_reducible repeat (first | apply Kd.qU | apply Kd.qT | apply Kd.qV)); exact Kd.qS (Kd.R_far (p := ⟨gb155, 3, none⟩) (Kd.R_far (p := ⟨gb155, 2, none⟩) (Kd.R_far (p := ⟨gb155, 1, none⟩) (Kd.R_far (p := ⟨gb155, 0, none⟩) (Kd.R_far (p := ⟨gb182, 2, none⟩) (Kd.R_far (p := ⟨gb182, 3, none⟩) (Kd.R_far (p := ⟨gb182, 1, none⟩) (Kd.qW (Kd.qW HO176.out BK182.out (by decide)) BK155.out (by decide)) (fun _ hk => hk.1.2) (.slice Ao74 y183.length co74)) (fun _ hk => hk.1.2) (.int .i64 t186)) (fun _ hk => hk.1.2) (.int .i64 t187)) (fun _ hk => hk.2) (.slice Ao65 t174.length co65)) (fun _ hk => hk.2) (.slice Ao74 y183.length co74)) (fun _ hk => hk.2) (.int .i64 t187)) (fun _ hk => hk.2) (.int .i64 t186)) (fun _ hk => trivial), by (with_reducible repeat (first | apply Kd.qU | apply Kd.qT | apply Kd.qV)); exact Kd.qS (Kd.R_far (p := ⟨gb155, 3, none⟩) (Kd.R_far (p := ⟨gb155, 2, none⟩) (Kd.R_far (p := ⟨gb155, 1, none⟩) (Kd.R_far (p := ⟨gb155, 0, none⟩) (Kd.R_far (p := ⟨gb182, 2, none⟩) (Kd.R_far (p := ⟨gb182, 3, none⟩) (Kd.R_far (p := ⟨gb182, 1, none⟩) (Kd.qW (Kd.qW HO185.out BK182.out (by decide)) BK155.out (by decide)) (fun _ hk => hk.1.2) (.slice Ao74 y183.length co74)) (fun _ hk => hk.1.2) (.int .i64 t186)) (fun _ hk => hk.1.2) (.int .i64 t187)) (fun _ hk => hk.2) (.slice Ao65 t174.length co65)) (fun _ hk => hk.2) (.slice Ao74 y183.length co74)) (fun _ hk => hk.2) (.int .i64 t187)) (fun _ hk => hk.2) (.int .i64 t186)) (fun _ hk => trivial), by repeat (first | (with_reducible first | exact HB.out | apply qG | apply qD | apply qF | refine qC ?_ GE154.out | refine qC ?_ GE155.out | refine qC ?_ GE156.out | refine qC ?_ GE182.out) | exact HB.out)⟩
          · rw [if_neg c57] at H
            exact absurd H (by simp)

/-! ### spec_l7Sync: function 61 -/
def spec_l7Sync.l0 : Nat → Int → List ByteArray → List (S70) → Int → Int → List ByteArray → List (S70) → Int → Int → Option (List ByteArray × (List (S70)) × Int × Int)
  | 0, _, _, _, _, _, _, _, _, _ => none
  | k + 1, x4, x189000, x189001, x189002, x189003, x199000, x199001, x199002, x199003 => if x4 < (x189001.length : Int) then (if 0 ≤ x4 then (if 0 ≤ ((rd_T70 x189001 x4).f0) then (if ((rd_T70 x189001 x4).f0) < (x199000.length : Int) then (spec_l7Sync.l0 k (wrap64 (x4 + 1)) x189000 x189001 x189002 x189003 (x199000.set (((rd_T70 x189001 x4).f0) : Int).toNat ((rd_T70 x189001 x4).f1)) x199001 x199002 x199003) else (none)) else (none)) else (none)) else ((spec_l7Less.f x189003).bind fun t202 => (some (x199000, ([] : List (S70)), x199002, t202)))
def spec_l7Sync.f (k : Nat) (l0_0 : List ByteArray) (l0_1 : List (S70)) (a0_2 : Int) (a0_3 : Int) : Option (List ByteArray × (List (S70)) × Int × Int) := (spec_l7Copy.f l0_0 l0_1 a0_2 a0_3).bind fun bt190 => (if a0_3 = 0 then (some (bt190.1, bt190.2.1, bt190.2.2.1, bt190.2.2.2)) else (spec_l7Sync.l0 k 0 l0_0 l0_1 a0_2 a0_3 bt190.1 bt190.2.1 bt190.2.2.1 bt190.2.2.2))
theorem spec_l7Sync.mono_l : ∀ k, (∀ y0 y1 y2 y3 y4 y5 y6 y7 y8, LeO (spec_l7Sync.l0 k y0 y1 y2 y3 y4 y5 y6 y7 y8) (spec_l7Sync.l0 (k + 1) y0 y1 y2 y3 y4 y5 y6 y7 y8))
  | 0 => fun _ _ _ _ _ _ _ _ _ r h => by simp [spec_l7Sync.l0] at h
  | k + 1 => by
    have ih0 := spec_l7Sync.mono_l k
    · intro y0 y1 y2 y3 y4 y5 y6 y7 y8
      unfold spec_l7Sync.l0
      repeat' first
      | (with_reducible exact ih0 _ _ _ _ _ _ _ _ _)
      | (with_reducible exact LeO.refl _)
      | (with_reducible exact LeO.none _)
      | (with_reducible refine LeO.ite ?_ ?_)
      | (with_reducible refine LeO.bind ?_ (fun _ => ?_))
      | exact ih0 _ _ _ _ _ _ _ _ _
      | exact LeO.none _
      | refine LeO.ite ?_ ?_
      | refine LeO.bind ?_ (fun _ => ?_)
theorem spec_l7Sync.mono : ∀ a0 a1 a2 a3 k, LeO (spec_l7Sync.f k a0 a1 a2 a3) (spec_l7Sync.f (k + 1) a0 a1 a2 a3) := by
  intro a0 a1 a2 a3 k
  have ih0 := spec_l7Sync.mono_l k
  unfold spec_l7Sync.f
  repeat' first
      | (with_reducible exact ih0 _ _ _ _ _ _ _ _ _)
      | (with_reducible exact LeO.refl _)
      | (with_reducible exact LeO.none _)
      | (with_reducible refine LeO.ite ?_ ?_)
      | (with_reducible refine LeO.bind ?_ (fun _ => ?_))
      | exact ih0 _ _ _ _ _ _ _ _ _
      | exact LeO.none _
      | refine LeO.ite ?_ ?_
      | refine LeO.bind ?_ (fun _ => ?_)
def spec_l7Sync.T7 : Bool × List (List Nat × List Nat) := (true, [([], []), ([0], [0]), ([], []), ([2], [2]), ([], []), ([3, 4], [3, 4]), ([5], [5]), ([6], [6]), ([], []), ([8], [8]), ([], []), ([9, 10], [9, 10]), ([11], [11]), ([12], [12]), ([1, 7, 0, 1, 2, 3, 4, 5, 6, 7, 8, 9, 10, 11, 12, 13], [1, 7]), ([14, 13, 0, 1, 2, 3, 4, 5, 6, 7, 8, 9, 10, 11, 12, 13], [13, 14])])
def spec_l7Sync.B7 : List Nat := [0, 1, 0, 4, 0, 28, 60, 124, 0, 256, 0, 1792, 3840, 7936, 16383, 32767]
theorem spec_l7Sync.tab7 : rtab .any (opsOf Try.f61 7) = spec_l7Sync.T7 := by kernel_rfl
theorem spec_l7Sync.bits7 : waitsOk spec_l7Sync.T7.2 spec_l7Sync.B7 = true := by kernel_rfl
set_option maxHeartbeats 8000000 in
set_option maxRecDepth 100000 in
theorem spec_l7Sync.calls (k : Nat) (A0_0 : Option Addr) (c0_0 : Nat) (l0_0 : List ByteArray) (A0_1 : Option Addr) (c0_1 : Nat) (l0_1 : List (S70)) (a0_2 : Int) (a0_3 : Int) (r1 : List ByteArray) (r2 : List (S70)) (r3 : Int) (r4 : Int) (w : World) (hr0_0 : Kd.C Kd.string w A0_0 l0_0.length l0_0) (hc0_0 : l0_0.length ≤ c0_0) (hr0_1 : Kd.C k70 w A0_1 l0_1.length l0_1) (hc0_1 : l0_1.length ≤ c0_1) (h : spec_l7Sync.f k l0_0 l0_1 a0_2 a0_3 = some (r1, r2, r3, r4)) :
    Calls Try.prog 61 #[.agg #[.slice A0_0 l0_0.length c0_0, .slice A0_1 l0_1.length c0_1, .int .i64 a0_2, .int .i64 a0_3]] w fun e w' => ∃ v0_ v1_ : Value, e = .returned (.agg #[v0_, v1_, .int .i64 r3, .int .i64 r4]) ∧ Kd.R Kd.string 9 w' w.heap.size (fun _ => True) v0_ r1 ∧ Kd.R k70 70 w' w.heap.size (fun _ => True) v1_ r2 ∧ Below w.heap.size w w' := by
  have hu26 := Try.underlying26
  have HR0_0 := Aside0.mk hr0_0
  have HC0_0 := Aside0.mk hc0_0
  clear hr0_0 hc0_0
  have HR0_1 := Aside0.mk hr0_1
  have HC0_1 := Aside0.mk hc0_1
  clear hr0_1 hc0_1
  have HB := Aside0.mk (Below.refl w.heap.size w)
  have H : ((spec_l7Copy.f l0_0 l0_1 a0_2 a0_3).bind fun bt190 => (if a0_3 = 0 then (some (bt190.1, bt190.2.1, bt190.2.2.1, bt190.2.2.2)) else (spec_l7Sync.l0 k 0 l0_0 l0_1 a0_2 a0_3 bt190.1 bt190.2.1 bt190.2.2.1 bt190.2.2.2))) = some (r1, r2, r3, r4) := h
  clear h
  replace H := Option.bind_eq_some_iff.mp H
  obtain ⟨⟨t190, t193, t196, t197⟩, A20, H⟩ := H
  replace H : (if a0_3 = 0 then (some (t190, t193, t196, t197)) else (spec_l7Sync.l0 k 0 l0_0 l0_1 a0_2 a0_3 t190 t193 t196 t197)) = some (r1, r2, r3, r4) := H
  have A2 := Aside0.mk A20
  clear A20
  by_cases c3 : a0_3 = 0
  · rw [if_pos c3] at H
    have c3b0 : (a0_3 == 0) = true := beq_iff_eq.mpr c3
    have c3b1 : (a0_3 != 0) = false := bne_eq_false_iff_eq.mpr c3
    clear c3
    simp only [Option.some.injEq, Prod.mk.injEq] at H
    obtain ⟨rfl, rfl, rfl, rfl⟩ := H
    go_enter Try.func61, Try.ntmps61
    go_wp2_with (first | ((with_reducible refine qZ (N := 1) rfl ?_); refine qY ?hg (N := 1) ?hd (cs := #[.slice A0_0 l0_0.length c0_0, .slice A0_1 l0_1.length c0_1, .int .i64 a0_2, .int .i64 a0_3]) (t := 26) ?hr ?_; (case hd => rfl); (case hg => rfl); (case hr => first | (go_simp; done) | (go_simp; rfl)); intro gb188 hg w4 hbox hb; have n0_ := Aside0.mk (qQ (by repeat (first | (with_reducible first | exact HB.out | apply qG | apply qD | apply qF) | exact HB.out)) hb); have n1_ := Aside0.mk (hbox); have n2_ := Aside0.mk ((by rw [hg]; exact (qP (by repeat (first | (with_reducible first | exact HB.out | apply qG | apply qD | apply qF) | exact HB.out))) : w.heap.size ≤ gb188)); have n3_ := Aside0.mk ((by rw [hg]; exact (qP (by repeat (first | (with_reducible first | exact HB.out | apply qG | apply qD | apply qF) | exact HB.out))) : w.heap.size ≤ gb188)); clear HB; have HB := n0_; have BK188 := n1_; have GW188 := n2_; have GE188 := n3_; clear n0_ n1_ n2_ n3_; clear hb hbox hg) | ((with_reducible refine qZ (N := 2) rfl ?_); refine qY ?hg (N := 2) ?hd (cs := #[.slice none 0 0, .slice none 0 0, .int .i64 0, .int .i64 0]) (t := 26) ?hr ?_; (case hd => rfl); (case hg => rfl); (case hr => first | (go_simp; done) | (go_simp; rfl)); intro gb189 hg w5 hbox hb; have n0_ := Aside0.mk (qL (g := gb188) (o := .cells #[.slice A0_0 l0_0.length c0_0, .slice A0_1 l0_1.length c0_1, .int .i64 a0_2, .int .i64 a0_3] 26 (0, 0)) (bw_ BK188.out) hb); have n1_ := Aside0.mk (qQ (by repeat (first | (with_reducible first | exact HB.out | apply qG | apply qD | apply qF | refine qC ?_ GE188.out) | exact HB.out)) hb); have n2_ := Aside0.mk (hbox); have n3_ := Aside0.mk ((by rw [hg]; exact (qP (by repeat (first | (with_reducible first | exact HB.out | apply qG | apply qD | apply qF | refine qC ?_ GE188.out) | exact HB.out))) : w.heap.size ≤ gb189)); have n4_ := Aside0.mk ((by rw [hg]; exact (qP (by repeat (first | (with_reducible first | exact HB.out | apply qG | apply qD | apply qF | refine qC ?_ GE188.out) | exact HB.out))) : w.heap.size ≤ gb189)); have n5_ := Aside0.mk ((by rw [hg]; exact Nat.ne_of_lt (zE (g := gb188) (o := .cells #[.slice A0_0 l0_0.length c0_0, .slice A0_1 l0_1.length c0_1, .int .i64 a0_2, .int .i64 a0_3] 26 (0, 0)) (bw_ BK188.out)) : gb188 ≠ gb189)); have n6_ := Aside0.mk ((by rw [hg]; exact Nat.ne_of_gt (zE (g := gb188) (o := .cells #[.slice A0_0 l0_0.length c0_0, .slice A0_1 l0_1.length c0_1, .int .i64 a0_2, .int .i64 a0_3] 26 (0, 0)) (bw_ BK188.out)) : gb189 ≠ gb188)); clear BK188; clear HB; have BK188 := n0_; have HB := n1_; have BK189 := n2_; have GW189 := n3_; have GE189 := n4_; have NB188_189 := n5_; have NB189_188 := n6_; clear n0_ n1_ n2_ n3_ n4_ n5_ n6_; clear hb hbox hg; have hnb6 := NB188_189.out; have hnc6 := NB189_188.out; have hcz7_0 : w5.cell? ⟨gb188, 0, none⟩ = some (.slice A0_0 l0_0.length c0_0) := (qA BK188.out 0).trans rfl; have hcz7_1 : w5.cell? ⟨gb188, 1, none⟩ = some (.slice A0_1 l0_1.length c0_1) := (qA BK188.out 1).trans rfl; have hcz7_2 : w5.cell? ⟨gb188, 2, none⟩ = some (.int .i64 a0_2) := (qA BK188.out 2).trans rfl; have hcz7_3 : w5.cell? ⟨gb188, 3, none⟩ = some (.int .i64 a0_3) := (qA BK188.out 3).trans rfl; have hfz7_0 := qB BK188.out 0; have hfz7_1 := qB BK188.out 1; have hfz7_2 := qB BK188.out 2; have hfz7_3 := qB BK188.out 3) | ((with_reducible refine qX (f := 38) rfl ?_); refine zM (some 6) rfl rfl Try.func38 (by kernel_rfl) rfl #[.agg #[.slice A0_0 l0_0.length c0_0, .slice A0_1 l0_1.length c0_1, .int .i64 a0_2, .int .i64 a0_3]] rfl (by (try simp only [List.map_toArray, List.map_cons, List.map_nil]); first | done | rfl | (simp only [List.length_drop, List.length_take]; rfl)) ?_; (with_reducible refine (spec_l7Copy.calls _ _ l0_0 _ _ l0_1 a0_2 a0_3 t190 t193 t196 t197 _ ?side1 ?side2 ?side3 ?side4 A2.out).mono ?_); (case side1 => repeat (first | exact (Kd.zH HR0_0.out HB.out) | (with_reducible refine Kd.zF ?_ _) | (with_reducible refine Kd.zG ?_ _) | (with_reducible refine Kd.zL ?_))); (case side2 => exact HC0_0.out); (case side3 => repeat (first | exact (Kd.zH HR0_1.out HB.out) | (with_reducible refine Kd.zF ?_ _) | (with_reducible refine Kd.zG ?_ _) | (with_reducible refine Kd.zL ?_))); (case side4 => exact HC0_1.out); rintro e w8 ⟨v191, v194, rfl, ho0, ho1, hb⟩; refine ⟨_, rfl, ?_⟩; have n0_ := Aside0.mk (Kd.zJ ho0 (qP (by repeat (first | (with_reducible first | exact HB.out | apply qG | apply qD | apply qF | refine qC ?_ GE188.out | refine qC ?_ GE189.out) | exact HB.out)))); have n1_ := Aside0.mk (Kd.zJ ho1 (qP (by repeat (first | (with_reducible first | exact HB.out | apply qG | apply qD | apply qF | refine qC ?_ GE188.out | refine qC ?_ GE189.out) | exact HB.out)))); have n2_ := Aside0.mk (qL (g := gb188) (o := .cells #[.slice A0_0 l0_0.length c0_0, .slice A0_1 l0_1.length c0_1, .int .i64 a0_2, .int .i64 a0_3] 26 (0, 0)) (bw_ BK188.out) hb); have n3_ := Aside0.mk (qL (g := gb189) (o := .cells #[.slice none 0 0, .slice none 0 0, .int .i64 0, .int .i64 0] 26 (0, 0)) (bw_ BK189.out) hb); have n4_ := Aside0.mk (qQ (by repeat (first | (with_reducible first | exact HB.out | apply qG | apply qD | apply qF | refine qC ?_ GE188.out | refine qC ?_ GE189.out) | exact HB.out)) hb); clear BK188; clear BK189; clear HB; have HO192 := n0_; have HO195 := n1_; have BK188 := n2_; have BK189 := n3_; have HB := n4_; clear n0_ n1_ n2_ n3_ n4_; (try clear hb); (try clear hb2); (try clear hk); (try clear hi); (try clear ho0); (try clear ho1)) | ((with_reducible refine qZ (N := 3) rfl ?_); refine qY ?hg (N := 3) ?hd (cs := #[.slice none 0 0, .slice none 0 0, .int .i64 0, .int .i64 0]) (t := 26) ?hr ?_; (case hd => rfl); (case hg => rfl); (case hr => first | (go_simp; done) | (go_simp; rfl)); intro gb198 hg w9 hbox hb; have n0_ := Aside0.mk (Kd.zB (rw_ HO192.out) hb); have n1_ := Aside0.mk (Kd.zB (rw_ HO195.out) hb); have n2_ := Aside0.mk (qL (g := gb188) (o := .cells #[.slice A0_0 l0_0.length c0_0, .slice A0_1 l0_1.length c0_1, .int .i64 a0_2, .int .i64 a0_3] 26 (0, 0)) (bw_ BK188.out) hb); have n3_ := Aside0.mk (qL (g := gb189) (o := .cells #[.slice none 0 0, .slice none 0 0, .int .i64 0, .int .i64 0] 26 (0, 0)) (bw_ BK189.out) hb); have n4_ := Aside0.mk (qQ (by repeat (first | (with_reducible first | exact HB.out | apply qG | apply qD | apply qF | refine qC ?_ GE188.out | refine qC ?_ GE189.out) | exact HB.out)) hb); have n5_ := Aside0.mk (hbox); have n6_ := Aside0.mk ((by rw [hg]; exact (qP (by repeat (first | (with_reducible first | exact HB.out | apply qG | apply qD | apply qF | refine qC ?_ GE188.out | refine qC ?_ GE189.out) | exact HB.out))) : w.heap.size ≤ gb198)); have n7_ := Aside0.mk ((by rw [hg]; exact (qP (by repeat (first | (with_reducible first | exact HB.out | apply qG | apply qD | apply qF | refine qC ?_ GE188.out | refine qC ?_ GE189.out) | exact HB.out))) : w.heap.size ≤ gb198)); have n8_ := Aside0.mk ((by rw [hg]; exact Nat.ne_of_lt (zE (g := gb188) (o := .cells #[.slice A0_0 l0_0.length c0_0, .slice A0_1 l0_1.length c0_1, .int .i64 a0_2, .int .i64 a0_3] 26 (0, 0)) (bw_ BK188.out)) : gb188 ≠ gb198)); have n9_ := Aside0.mk ((by rw [hg]; exact Nat.ne_of_gt (zE (g := gb188) (o := .cells #[.slice A0_0 l0_0.length c0_0, .slice A0_1 l0_1.length c0_1, .int .i64 a0_2, .int .i64 a0_3] 26 (0, 0)) (bw_ BK188.out)) : gb198 ≠ gb188)); have n10_ := Aside0.mk ((by rw [hg]; exact Nat.ne_of_lt (zE (g := gb189) (o := .cells #[.slice none 0 0, .slice none 0 0, .int .i64 0, .int .i64 0] 26 (0, 0)) (bw_ BK189.out)) : gb189 ≠ gb198)); have n11_ := Aside0.mk ((by rw [hg]; exact Nat.ne_of_gt (zE (g := gb189) (o := .cells #[.slice none 0 0, .slice none 0 0, .int .i64 0, .int .i64 0] 26 (0, 0)) (bw_ BK189.out)) : gb198 ≠ gb189)); clear HO192; clear HO195; clear BK188; clear BK189; clear HB; have HO192 := n0_; have HO195 := n1_; have BK188 := n2_; have BK189 := n3_; have HB := n4_; have BK198 := n5_; have GW198 := n6_; have GE198 := n7_; have NB188_198 := n8_; have NB198_188 := n9_; have NB189_198 := n10_; have NB198_189 := n11_; clear n0_ n1_ n2_ n3_ n4_ n5_ n6_ n7_ n8_ n9_ n10_ n11_; clear hb hbox hg; obtain ⟨Ao10, co10, eo10⟩ := Kd.zD HO192.out; subst eo10; have hnb11 := NB198_188.out; have hnc11 := NB188_198.out; have hnb12 := NB198_189.out; have hnc12 := NB189_198.out; have hcz13_0 : w9.cell? ⟨gb198, 0, none⟩ = some (.slice none 0 0) := (qA BK198.out 0).trans rfl; have hcz13_1 : w9.cell? ⟨gb198, 1, none⟩ = some (.slice none 0 0) := (qA BK198.out 1).trans rfl; have hcz13_2 : w9.cell? ⟨gb198, 2, none⟩ = some (.int .i64 0) := (qA BK198.out 2).trans rfl; have hcz13_3 : w9.cell? ⟨gb198, 3, none⟩ = some (.int .i64 0) := (qA BK198.out 3).trans rfl; have hfz13_0 := qB BK198.out 0; have hfz13_1 := qB BK198.out 1; have hfz13_2 := qB BK198.out 2; have hfz13_3 := qB BK198.out 3; obtain ⟨Ao14, co14, eo14⟩ := Kd.zD HO195.out; subst eo14; have hcz15_0 : w9.cell? ⟨gb188, 0, none⟩ = some (.slice A0_0 l0_0.length c0_0) := (qA BK188.out 0).trans rfl; have hcz15_1 : w9.cell? ⟨gb188, 1, none⟩ = some (.slice A0_1 l0_1.length c0_1) := (qA BK188.out 1).trans rfl; have hcz15_2 : w9.cell? ⟨gb188, 2, none⟩ = some (.int .i64 a0_2) := (qA BK188.out 2).trans rfl; have hcz15_3 : w9.cell? ⟨gb188, 3, none⟩ = some (.int .i64 a0_3) := (qA BK188.out 3).trans rfl; have hfz15_0 := qB BK188.out 0; have hfz15_1 := qB BK188.out 1; have hfz15_2 := qB BK188.out 2; have hfz15_3 := qB BK188.out 3; have hcz16_0 : w9.cell? ⟨gb189, 0, none⟩ = some (.slice none 0 0) := (qA BK189.out 0).trans rfl; have hcz16_1 : w9.cell? ⟨gb189, 1, none⟩ = some (.slice none 0 0) := (qA BK189.out 1).trans rfl; have hcz16_2 : w9.cell? ⟨gb189, 2, none⟩ = some (.int .i64 0) := (qA BK189.out 2).trans rfl; have hcz16_3 : w9.cell? ⟨gb189, 3, none⟩ = some (.int .i64 0) := (qA BK189.out 3).trans rfl; have hfz16_0 := qB BK189.out 0; have hfz16_1 := qB BK189.out 1; have hfz16_2 := qB BK189.out 2; have hfz16_3 := qB BK189.out 3))
    refine bodyPost_ret (results_cell_row rfl _ _ gb189 26 #[.slice Ao10 t190.length co10, .slice Ao14 t193.length co14, .int .i64 t196, .int .i64 t197] (0, 0) _ rfl (by (with_reducible repeat (first | refine qH ?_ _ | refine qI ?_ | refine qE ?_ _)); refine qN (cs := #[.slice Ao10 t190.length co10, .slice Ao14 t193.length co14, .int .i64 t196, .int .i64 0]) ?_ 3 _ rfl; (with_reducible repeat (first | refine qH ?_ _ | refine qI ?_ | refine qE ?_ _)); refine qN (cs := #[.slice Ao10 t190.length co10, .slice Ao14 t193.length co14, .int .i64 0, .int .i64 0]) ?_ 2 _ rfl; (with_reducible repeat (first | refine qH ?_ _ | refine qI ?_ | refine qE ?_ _)); refine qN (cs := #[.slice Ao10 t190.length co10, .slice none 0 0, .int .i64 0, .int .i64 0]) ?_ 1 _ rfl; (with_reducible repeat (first | refine qH ?_ _ | refine qI ?_ | refine qE ?_ _)); refine qN (cs := #[.slice none 0 0, .slice none 0 0, .int .i64 0, .int .i64 0]) ?_ 0 _ rfl; (with_reducible repeat (first | refine qH ?_ _ | refine qI ?_ | refine qE ?_ _)); refine qR ?_ NB189_198.out _; (with_reducible repeat (first | refine qH ?_ _ | refine qI ?_ | refine qE ?_ _)); refine qR ?_ NB189_198.out _; (with_reducible repeat (first | refine qH ?_ _ | refine qI ?_ | refine qE ?_ _)); refine qR ?_ NB189_198.out _; (with_reducible repeat (first | refine qH ?_ _ | refine qI ?_ | refine qE ?_ _)); refine qR ?_ NB189_198.out _; (with_reducible repeat (first | refine qH ?_ _ | refine qI ?_ | refine qE ?_ _)); exact BK189.out) Try.underlying26 rfl (by kernel_rfl)) rfl ?_
    exact ⟨_, _, by first | rfl | (simp [errW_none, errW_some] <;> rfl) | (simp [*, errW_none, errW_some] <;> rfl), by (with_reducible repeat (first | apply Kd.qU | apply Kd.qT | apply Kd.qV)); exact Kd.qS (Kd.R_far (p := ⟨gb189, 3, none⟩) (Kd.R_far (p := ⟨gb189, 2, none⟩) (Kd.R_far (p := ⟨gb189, 1, none⟩) (Kd.R_far (p := ⟨gb189, 0, none⟩) (Kd.R_far (p := ⟨gb198, 3, none⟩) (Kd.R_far (p := ⟨gb198, 2, none⟩) (Kd.R_far (p := ⟨gb198, 1, none⟩) (Kd.R_far (p := ⟨gb198, 0, none⟩) (Kd.qW (Kd.qW HO192.out BK198.out (by decide)) BK189.out (by decide)) (fun _ hk => hk.1.2) (.slice Ao10 t190.length co10)) (fun _ hk => hk.1.2) (.slice Ao14 t193.length co14)) (fun _ hk => hk.1.2) (.int .i64 t196)) (fun _ hk => hk.1.2) (.int .i64 t197)) (fun _ hk => hk.2) (.slice Ao10 t190.length co10)) (fun _ hk => hk.2) (.slice Ao14 t193.length co14)) (fun _ hk => hk.2) (.int .i64 t196)) (fun _ hk => hk.2) (.int .i64 t197)) (fun _ hk => trivial), by (with_reducible repeat (first | apply Kd.qU | apply Kd.qT | apply Kd.qV)); exact Kd.qS (Kd.R_far (p := ⟨gb189, 3, none⟩) (Kd.R_far (p := ⟨gb189, 2, none⟩) (Kd.R_far (p := ⟨gb189, 1, none⟩) (Kd.R_far (p := ⟨gb189, 0, none⟩) (Kd.R_far (p := ⟨gb198, 3, none⟩) (Kd.R_far (p := ⟨gb198, 2, none⟩) (Kd.R_far (p := ⟨gb198, 1, none⟩) (Kd.R_far (p := ⟨gb198, 0, none⟩) (Kd.qW (Kd.qW HO195.out BK198.out (by decide)) BK189.out (by decide)) (fun _ hk => hk.1.2) (.slice Ao10 t190.length co10)) (fun _ hk => hk.1.2) (.slice Ao14 t193.length co14)) (fun _ hk => hk.1.2) (.int .i64 t196)) (fun _ hk => hk.1.2) (.int .i64 t197)) (fun _ hk => hk.2) (.slice Ao10 t190.length co10)) (fun _ hk => hk.2) (.slice Ao14 t193.length co14)) (fun _ hk => hk.2) (.int .i64 t196)) (fun _ hk => hk.2) (.int .i64 t197)) (fun _ hk => trivial), by repeat (first | (with_reducible first | exact HB.out | apply qG | apply qD | apply qF | refine qC ?_ GE188.out | refine qC ?_ GE189.out | refine qC ?_ GE198.out) | exact HB.out)⟩
  · rw [if_neg c3] at H
    have c3b0 : (a0_3 == 0) = false := beq_eq_false_iff_ne.mpr c3
    have c3b1 : (a0_3 != 0) = true := bne_iff_ne.mpr c3
    have H' := Aside0.mk H
    clear H
    go_enter Try.func61, Try.ntmps61
    go_wp2_with (first | ((with_reducible refine qZ (N := 1) rfl ?_); refine qY ?hg (N := 1) ?hd (cs := #[.slice A0_0 l0_0.length c0_0, .slice A0_1 l0_1.length c0_1, .int .i64 a0_2, .int .i64 a0_3]) (t := 26) ?hr ?_; (case hd => rfl); (case hg => rfl); (case hr => first | (go_simp; done) | (go_simp; rfl)); intro gb188 hg w17 hbox hb; have n0_ := Aside0.mk (qQ (by repeat (first | (with_reducible first | exact HB.out | apply qG | apply qD | apply qF) | exact HB.out)) hb); have n1_ := Aside0.mk (hbox); have n2_ := Aside0.mk ((by rw [hg]; exact (qP (by repeat (first | (with_reducible first | exact HB.out | apply qG | apply qD | apply qF) | exact HB.out))) : w.heap.size ≤ gb188)); have n3_ := Aside0.mk ((by rw [hg]; exact (qP (by repeat (first | (with_reducible first | exact HB.out | apply qG | apply qD | apply qF) | exact HB.out))) : w.heap.size ≤ gb188)); clear HB; have HB := n0_; have BK188 := n1_; have GW188 := n2_; have GE188 := n3_; clear n0_ n1_ n2_ n3_; clear hb hbox hg) | ((with_reducible refine qZ (N := 2) rfl ?_); refine qY ?hg (N := 2) ?hd (cs := #[.slice none 0 0, .slice none 0 0, .int .i64 0, .int .i64 0]) (t := 26) ?hr ?_; (case hd => rfl); (case hg => rfl); (case hr => first | (go_simp; done) | (go_simp; rfl)); intro gb189 hg w18 hbox hb; have n0_ := Aside0.mk (qL (g := gb188) (o := .cells #[.slice A0_0 l0_0.length c0_0, .slice A0_1 l0_1.length c0_1, .int .i64 a0_2, .int .i64 a0_3] 26 (0, 0)) (bw_ BK188.out) hb); have n1_ := Aside0.mk (qQ (by repeat (first | (with_reducible first | exact HB.out | apply qG | apply qD | apply qF | refine qC ?_ GE188.out) | exact HB.out)) hb); have n2_ := Aside0.mk (hbox); have n3_ := Aside0.mk ((by rw [hg]; exact (qP (by repeat (first | (with_reducible first | exact HB.out | apply qG | apply qD | apply qF | refine qC ?_ GE188.out) | exact HB.out))) : w.heap.size ≤ gb189)); have n4_ := Aside0.mk ((by rw [hg]; exact (qP (by repeat (first | (with_reducible first | exact HB.out | apply qG | apply qD | apply qF | refine qC ?_ GE188.out) | exact HB.out))) : w.heap.size ≤ gb189)); have n5_ := Aside0.mk ((by rw [hg]; exact Nat.ne_of_lt (zE (g := gb188) (o := .cells #[.slice A0_0 l0_0.length c0_0, .slice A0_1 l0_1.length c0_1, .int .i64 a0_2, .int .i64 a0_3] 26 (0, 0)) (bw_ BK188.out)) : gb188 ≠ gb189)); have n6_ := Aside0.mk ((by rw [hg]; exact Nat.ne_of_gt (zE (g := gb188) (o := .cells #[.slice A0_0 l0_0.length c0_0, .slice A0_1 l0_1.length c0_1, .int .i64 a0_2, .int .i64 a0_3] 26 (0, 0)) (bw_ BK188.out)) : gb189 ≠ gb188)); clear BK188; clear HB; have BK188 := n0_; have HB := n1_; have BK189 := n2_; have GW189 := n3_; have GE189 := n4_; have NB188_189 := n5_; have NB189_188 := n6_; clear n0_ n1_ n2_ n3_ n4_ n5_ n6_; clear hb hbox hg; have hnb19 := NB188_189.out; have hnc19 := NB189_188.out; have hcz20_0 : w18.cell? ⟨gb188, 0, none⟩ = some (.slice A0_0 l0_0.length c0_0) := (qA BK188.out 0).trans rfl; have hcz20_1 : w18.cell? ⟨gb188, 1, none⟩ = some (.slice A0_1 l0_1.length c0_1) := (qA BK188.out 1).trans rfl; have hcz20_2 : w18.cell? ⟨gb188, 2, none⟩ = some (.int .i64 a0_2) := (qA BK188.out 2).trans rfl; have hcz20_3 : w18.cell? ⟨gb188, 3, none⟩ = some (.int .i64 a0_3) := (qA BK188.out 3).trans rfl; have hfz20_0 := qB BK188.out 0; have hfz20_1 := qB BK188.out 1; have hfz20_2 := qB BK188.out 2; have hfz20_3 := qB BK188.out 3) | ((with_reducible refine qX (f := 38) rfl ?_); refine zM (some 6) rfl rfl Try.func38 (by kernel_rfl) rfl #[.agg #[.slice A0_0 l0_0.length c0_0, .slice A0_1 l0_1.length c0_1, .int .i64 a0_2, .int .i64 a0_3]] rfl (by (try simp only [List.map_toArray, List.map_cons, List.map_nil]); first | done | rfl | (simp only [List.length_drop, List.length_take]; rfl)) ?_; (with_reducible refine (spec_l7Copy.calls _ _ l0_0 _ _ l0_1 a0_2 a0_3 t190 t193 t196 t197 _ ?side1 ?side2 ?side3 ?side4 A2.out).mono ?_); (case side1 => repeat (first | exact (Kd.zH HR0_0.out HB.out) | (with_reducible refine Kd.zF ?_ _) | (with_reducible refine Kd.zG ?_ _) | (with_reducible refine Kd.zL ?_))); (case side2 => exact HC0_0.out); (case side3 => repeat (first | exact (Kd.zH HR0_1.out HB.out) | (with_reducible refine Kd.zF ?_ _) | (with_reducible refine Kd.zG ?_ _) | (with_reducible refine Kd.zL ?_))); (case side4 => exact HC0_1.out); rintro e w21 ⟨v191, v194, rfl, ho0, ho1, hb⟩; refine ⟨_, rfl, ?_⟩; have n0_ := Aside0.mk (Kd.zJ ho0 (qP (by repeat (first | (with_reducible first | exact HB.out | apply qG | apply qD | apply qF | refine qC ?_ GE188.out | refine qC ?_ GE189.out) | exact HB.out)))); have n1_ := Aside0.mk (Kd.zJ ho1 (qP (by repeat (first | (with_reducible first | exact HB.out | apply qG | apply qD | apply qF | refine qC ?_ GE188.out | refine qC ?_ GE189.out) | exact HB.out)))); have n2_ := Aside0.mk (qL (g := gb188) (o := .cells #[.slice A0_0 l0_0.length c0_0, .slice A0_1 l0_1.length c0_1, .int .i64 a0_2, .int .i64 a0_3] 26 (0, 0)) (bw_ BK188.out) hb); have n3_ := Aside0.mk (qL (g := gb189) (o := .cells #[.slice none 0 0, .slice none 0 0, .int .i64 0, .int .i64 0] 26 (0, 0)) (bw_ BK189.out) hb); have n4_ := Aside0.mk (qQ (by repeat (first | (with_reducible first | exact HB.out | apply qG | apply qD | apply qF | refine qC ?_ GE188.out | refine qC ?_ GE189.out) | exact HB.out)) hb); clear BK188; clear BK189; clear HB; have HO192 := n0_; have HO195 := n1_; have BK188 := n2_; have BK189 := n3_; have HB := n4_; clear n0_ n1_ n2_ n3_ n4_; (try clear hb); (try clear hb2); (try clear hk); (try clear hi); (try clear ho0); (try clear ho1)) | ((with_reducible refine qZ (N := 3) rfl ?_); refine qY ?hg (N := 3) ?hd (cs := #[.slice none 0 0, .slice none 0 0, .int .i64 0, .int .i64 0]) (t := 26) ?hr ?_; (case hd => rfl); (case hg => rfl); (case hr => first | (go_simp; done) | (go_simp; rfl)); intro gb198 hg w22 hbox hb; have n0_ := Aside0.mk (Kd.zB (rw_ HO192.out) hb); have n1_ := Aside0.mk (Kd.zB (rw_ HO195.out) hb); have n2_ := Aside0.mk (qL (g := gb188) (o := .cells #[.slice A0_0 l0_0.length c0_0, .slice A0_1 l0_1.length c0_1, .int .i64 a0_2, .int .i64 a0_3] 26 (0, 0)) (bw_ BK188.out) hb); have n3_ := Aside0.mk (qL (g := gb189) (o := .cells #[.slice none 0 0, .slice none 0 0, .int .i64 0, .int .i64 0] 26 (0, 0)) (bw_ BK189.out) hb); have n4_ := Aside0.mk (qQ (by repeat (first | (with_reducible first | exact HB.out | apply qG | apply qD | apply qF | refine qC ?_ GE188.out | refine qC ?_ GE189.out) | exact HB.out)) hb); have n5_ := Aside0.mk (hbox); have n6_ := Aside0.mk ((by rw [hg]; exact (qP (by repeat (first | (with_reducible first | exact HB.out | apply qG | apply qD | apply qF | refine qC ?_ GE188.out | refine qC ?_ GE189.out) | exact HB.out))) : w.heap.size ≤ gb198)); have n7_ := Aside0.mk ((by rw [hg]; exact (qP (by repeat (first | (with_reducible first | exact HB.out | apply qG | apply qD | apply qF | refine qC ?_ GE188.out | refine qC ?_ GE189.out) | exact HB.out))) : w.heap.size ≤ gb198)); have n8_ := Aside0.mk ((by rw [hg]; exact Nat.ne_of_lt (zE (g := gb188) (o := .cells #[.slice A0_0 l0_0.length c0_0, .slice A0_1 l0_1.length c0_1, .int .i64 a0_2, .int .i64 a0_3] 26 (0, 0)) (bw_ BK188.out)) : gb188 ≠ gb198)); have n9_ := Aside0.mk ((by rw [hg]; exact Nat.ne_of_gt (zE (g := gb188) (o := .cells #[.slice A0_0 l0_0.length c0_0, .slice A0_1 l0_1.length c0_1, .int .i64 a0_2, .int .i64 a0_3] 26 (0, 0)) (bw_ BK188.out)) : gb198 ≠ gb188)); have n10_ := Aside0.mk ((by rw [hg]; exact Nat.ne_of_lt (zE (g := gb189) (o := .cells #[.slice none 0 0, .slice none 0 0, .int .i64 0, .int .i64 0] 26 (0, 0)) (bw_ BK189.out)) : gb189 ≠ gb198)); have n11_ := Aside0.mk ((by rw [hg]; exact Nat.ne_of_gt (zE (g := gb189) (o := .cells #[.slice none 0 0, .slice none 0 0, .int .i64 0, .int .i64 0] 26 (0, 0)) (bw_ BK189.out)) : gb198 ≠ gb189)); clear HO192; clear HO195; clear BK188; clear BK189; clear HB; have HO192 := n0_; have HO195 := n1_; have BK188 := n2_; have BK189 := n3_; have HB := n4_; have BK198 := n5_; have GW198 := n6_; have GE198 := n7_; have NB188_198 := n8_; have NB198_188 := n9_; have NB189_198 := n10_; have NB198_189 := n11_; clear n0_ n1_ n2_ n3_ n4_ n5_ n6_ n7_ n8_ n9_ n10_ n11_; clear hb hbox hg; obtain ⟨Ao23, co23, eo23⟩ := Kd.zD HO192.out; subst eo23; have hnb24 := NB198_188.out; have hnc24 := NB188_198.out; have hnb25 := NB198_189.out; have hnc25 := NB189_198.out; have hcz26_0 : w22.cell? ⟨gb198, 0, none⟩ = some (.slice none 0 0) := (qA BK198.out 0).trans rfl; have hcz26_1 : w22.cell? ⟨gb198, 1, none⟩ = some (.slice none 0 0) := (qA BK198.out 1).trans rfl; have hcz26_2 : w22.cell? ⟨gb198, 2, none⟩ = some (.int .i64 0) := (qA BK198.out 2).trans rfl; have hcz26_3 : w22.cell? ⟨gb198, 3, none⟩ = some (.int .i64 0) := (qA BK198.out 3).trans rfl; have hfz26_0 := qB BK198.out 0; have hfz26_1 := qB BK198.out 1; have hfz26_2 := qB BK198.out 2; have hfz26_3 := qB BK198.out 3; obtain ⟨Ao27, co27, eo27⟩ := Kd.zD HO195.out; subst eo27; have hcz28_0 : w22.cell? ⟨gb188, 0, none⟩ = some (.slice A0_0 l0_0.length c0_0) := (qA BK188.out 0).trans rfl; have hcz28_1 : w22.cell? ⟨gb188, 1, none⟩ = some (.slice A0_1 l0_1.length c0_1) := (qA BK188.out 1).trans rfl; have hcz28_2 : w22.cell? ⟨gb188, 2, none⟩ = some (.int .i64 a0_2) := (qA BK188.out 2).trans rfl; have hcz28_3 : w22.cell? ⟨gb188, 3, none⟩ = some (.int .i64 a0_3) := (qA BK188.out 3).trans rfl; have hfz28_0 := qB BK188.out 0; have hfz28_1 := qB BK188.out 1; have hfz28_2 := qB BK188.out 2; have hfz28_3 := qB BK188.out 3))
    go_loopg [4] k (fun kq v4 w' => ∃ (x4_1 : Int) (x199000_1 : List ByteArray) (u199000 : Value), v4 = .int .i64 x4_1 ∧ Aside0 (spec_l7Sync.l0 kq x4_1 l0_0 l0_1 a0_2 a0_3 x199000_1 t193 t196 t197 = some (r1, r2, r3, r4)) ∧ Aside0 (kq ≤ k) ∧ Aside0 (Kd.R Kd.string 9 w' w.heap.size (fun _ => True) u199000 x199000_1) ∧ Aside0 (Kd.R k70 70 w' w.heap.size (fun _ => True) (.slice Ao27 t193.length co27) t193) ∧ Aside0 (w'.heap[gb188]? = some (.cells #[(.slice A0_0 l0_0.length c0_0), (.slice A0_1 l0_1.length c0_1), .int .i64 a0_2, .int .i64 a0_3] 26 (0, 0))) ∧ Aside0 (w'.heap[gb189]? = some (.cells #[(.slice none 0 0), (.slice none 0 0), .int .i64 0, .int .i64 0] 26 (0, 0))) ∧ Aside0 (w'.heap[gb198]? = some (.cells #[u199000, (.slice Ao27 t193.length co27), .int .i64 t196, .int .i64 t197] 26 (0, 0))) ∧ Aside0 (Below w.heap.size w w'))
    case atStart => exact ⟨(0), (t190), (.slice Ao23 t190.length co23), (by first | rfl | (simp; done) | (simp [*]; done)), H', ⟨Nat.le_refl _⟩, ⟨by (with_reducible repeat (first | apply Kd.qU | apply Kd.qT | apply Kd.qV)); exact Kd.qS (Kd.R_far (p := ⟨gb198, 3, none⟩) (Kd.R_far (p := ⟨gb198, 2, none⟩) (Kd.R_far (p := ⟨gb198, 1, none⟩) (Kd.R_far (p := ⟨gb198, 0, none⟩) (Kd.qW HO192.out BK198.out (by decide)) (fun _ hk => hk.2) (.slice Ao23 t190.length co23)) (fun _ hk => hk.2) (.slice Ao27 t193.length co27)) (fun _ hk => hk.2) (.int .i64 t196)) (fun _ hk => hk.2) (.int .i64 t197)) (fun _ hk => trivial)⟩, ⟨by (with_reducible repeat (first | apply Kd.qU | apply Kd.qT | apply Kd.qV)); exact Kd.qS (Kd.R_far (p := ⟨gb198, 3, none⟩) (Kd.R_far (p := ⟨gb198, 2, none⟩) (Kd.R_far (p := ⟨gb198, 1, none⟩) (Kd.R_far (p := ⟨gb198, 0, none⟩) (Kd.qW HO195.out BK198.out (by decide)) (fun _ hk => hk.2) (.slice Ao23 t190.length co23)) (fun _ hk => hk.2) (.slice Ao27 t193.length co27)) (fun _ hk => hk.2) (.int .i64 t196)) (fun _ hk => hk.2) (.int .i64 t197)) (fun _ hk => trivial)⟩, ⟨by (with_reducible repeat (first | refine qH ?_ _ | refine qI ?_ | refine qE ?_ _)); refine qR ?_ NB188_198.out _; (with_reducible repeat (first | refine qH ?_ _ | refine qI ?_ | refine qE ?_ _)); refine qR ?_ NB188_198.out _; (with_reducible repeat (first | refine qH ?_ _ | refine qI ?_ | refine qE ?_ _)); refine qR ?_ NB188_198.out _; (with_reducible repeat (first | refine qH ?_ _ | refine qI ?_ | refine qE ?_ _)); refine qR ?_ NB188_198.out _; (with_reducible repeat (first | refine qH ?_ _ | refine qI ?_ | refine qE ?_ _)); exact BK188.out⟩, ⟨by (with_reducible repeat (first | refine qH ?_ _ | refine qI ?_ | refine qE ?_ _)); refine qR ?_ NB189_198.out _; (with_reducible repeat (first | refine qH ?_ _ | refine qI ?_ | refine qE ?_ _)); refine qR ?_ NB189_198.out _; (with_reducible repeat (first | refine qH ?_ _ | refine qI ?_ | refine qE ?_ _)); refine qR ?_ NB189_198.out _; (with_reducible repeat (first | refine qH ?_ _ | refine qI ?_ | refine qE ?_ _)); refine qR ?_ NB189_198.out _; (with_reducible repeat (first | refine qH ?_ _ | refine qI ?_ | refine qE ?_ _)); exact BK189.out⟩, ⟨by (with_reducible repeat (first | refine qH ?_ _ | refine qI ?_ | refine qE ?_ _)); refine qN (cs := #[.slice Ao23 t190.length co23, .slice Ao27 t193.length co27, .int .i64 t196, .int .i64 0]) ?_ 3 _ rfl; (with_reducible repeat (first | refine qH ?_ _ | refine qI ?_ | refine qE ?_ _)); refine qN (cs := #[.slice Ao23 t190.length co23, .slice Ao27 t193.length co27, .int .i64 0, .int .i64 0]) ?_ 2 _ rfl; (with_reducible repeat (first | refine qH ?_ _ | refine qI ?_ | refine qE ?_ _)); refine qN (cs := #[.slice Ao23 t190.length co23, .slice none 0 0, .int .i64 0, .int .i64 0]) ?_ 1 _ rfl; (with_reducible repeat (first | refine qH ?_ _ | refine qI ?_ | refine qE ?_ _)); refine qN (cs := #[.slice none 0 0, .slice none 0 0, .int .i64 0, .int .i64 0]) ?_ 0 _ rfl; (with_reducible repeat (first | refine qH ?_ _ | refine qI ?_ | refine qE ?_ _)); exact BK198.out⟩, ⟨by repeat (first | (with_reducible first | exact HB.out | apply qG | apply qD | apply qF | refine qC ?_ GE188.out | refine qC ?_ GE189.out | refine qC ?_ GE198.out) | exact HB.out)⟩⟩
    case round =>
      clear H'
      try clear c1
      try clear c2
      try clear p2
      try clear c3
      try clear c3b0
      try clear c3b1
      try clear c6
      try clear c11
      try clear c12
      try clear c19
      try clear c24
      try clear c25
      try clear hcz13_0
      try clear hcz13_1
      try clear hcz13_2
      try clear hcz13_3
      try clear hcz15_0
      try clear hcz15_1
      try clear hcz15_2
      try clear hcz15_3
      try clear hcz16_0
      try clear hcz16_1
      try clear hcz16_2
      try clear hcz16_3
      try clear hcz20_0
      try clear hcz20_1
      try clear hcz20_2
      try clear hcz20_3
      try clear hcz26_0
      try clear hcz26_1
      try clear hcz26_2
      try clear hcz26_3
      try clear hcz28_0
      try clear hcz28_1
      try clear hcz28_2
      try clear hcz28_3
      try clear hcz7_0
      try clear hcz7_1
      try clear hcz7_2
      try clear hcz7_3
      try clear hfz13_0
      try clear hfz13_1
      try clear hfz13_2
      try clear hfz13_3
      try clear hfz15_0
      try clear hfz15_1
      try clear hfz15_2
      try clear hfz15_3
      try clear hfz16_0
      try clear hfz16_1
      try clear hfz16_2
      try clear hfz16_3
      try clear hfz20_0
      try clear hfz20_1
      try clear hfz20_2
      try clear hfz20_3
      try clear hfz26_0
      try clear hfz26_1
      try clear hfz26_2
      try clear hfz26_3
      try clear hfz28_0
      try clear hfz28_1
      try clear hfz28_2
      try clear hfz28_3
      try clear hfz7_0
      try clear hfz7_1
      try clear hfz7_2
      try clear hfz7_3
      obtain ⟨x4_1, x199000_1, u199000, rfl, HA, HK1, HO_199000, HO_199001, BK188, BK189, BK198, HB⟩ := hrel
      cases gk with
      | zero => exact absurd HA.out (by simp [spec_l7Sync.l0])
      | succ k1 =>
        have H := HA.out
        clear HA
        simp only [spec_l7Sync.l0] at H
        by_cases c29 : x4_1 < (l0_1.length : Int)
        · rw [if_pos c29] at H
          have c29b0 : decide (x4_1 < (l0_1.length : Int)) = true := decide_eq_true c29
          clear c29
          by_cases c30 : 0 ≤ x4_1
          · rw [if_pos c30] at H
            have c30b0 : decide (0 ≤ x4_1) = true := decide_eq_true c30
            clear c30
            by_cases c31 : 0 ≤ ((rd_T70 l0_1 x4_1).f0)
            · rw [if_pos c31] at H
              have c31b0 : decide (0 ≤ ((rd_T70 l0_1 x4_1).f0)) = true := decide_eq_true c31
              clear c31
              by_cases c32 : ((rd_T70 l0_1 x4_1).f0) < (x199000_1.length : Int)
              · rw [if_pos c32] at H
                have c32b0 : decide (((rd_T70 l0_1 x4_1).f0) < (x199000_1.length : Int)) = true := decide_eq_true c32
                clear c32
                obtain ⟨y201, hy201⟩ : ∃ y_ : List ByteArray, y_ = (x199000_1.set (((rd_T70 l0_1 x4_1).f0) : Int).toNat ((rd_T70 l0_1 x4_1).f1)) := ⟨_, rfl⟩
                replace H : (spec_l7Sync.l0 k1 (wrap64 (x4_1 + 1)) l0_0 l0_1 a0_2 a0_3 y201 t193 t196 t197) = some (r1, r2, r3, r4) := by first | (rw [hy201]; with_reducible exact H) | (have H2_ := (Option.bind_some _ _).symm.trans H; rw [hy201]; with_reducible exact H2_) | (have H2_ := (Option.bind_some _ _).symm.trans H; with_reducible exact H2_) | with_reducible exact H | (rw [hy201]; exact H) | exact H
                have Ny201 := Aside0.mk hy201
                clear hy201
                have H' := Aside0.mk H
                clear H
                have hnb34 := NB188_189.out
                have hnc34 := NB189_188.out
                have hnb35 := NB188_198.out
                have hnc35 := NB198_188.out
                have hcz36_0 : wr.cell? ⟨gb188, 0, none⟩ = some (.slice A0_0 l0_0.length c0_0) := (qA BK188.out 0).trans rfl
                have hcz36_1 : wr.cell? ⟨gb188, 1, none⟩ = some (.slice A0_1 l0_1.length c0_1) := (qA BK188.out 1).trans rfl
                have hcz36_2 : wr.cell? ⟨gb188, 2, none⟩ = some (.int .i64 a0_2) := (qA BK188.out 2).trans rfl
                have hcz36_3 : wr.cell? ⟨gb188, 3, none⟩ = some (.int .i64 a0_3) := (qA BK188.out 3).trans rfl
                have hfz36_0 := qB BK188.out 0
                have hfz36_1 := qB BK188.out 1
                have hfz36_2 := qB BK188.out 2
                have hfz36_3 := qB BK188.out 3
                try go_wp2
                have n0_ := Aside0.mk (Kd.qV HO_199000.out)
                have n1_ := Aside0.mk (Kd.qV HO_199001.out)
                have n2_ := Aside0.mk (qI BK188.out)
                have n3_ := Aside0.mk (qI BK189.out)
                have n4_ := Aside0.mk (qI BK198.out)
                have n5_ := Aside0.mk (qF HB.out)
                clear HO_199000
                clear HO_199001
                clear BK188
                clear BK189
                clear BK198
                clear HB
                have HO_199000 := n0_
                have HO_199001 := n1_
                have BK188 := n2_
                have BK189 := n3_
                have BK198 := n4_
                have HB := n5_
                clear n0_ n1_ n2_ n3_ n4_ n5_
                have p199 : 0 ≤ (x4_1 : Int) := of_decide_eq_true (by first | (with_reducible assumption) | assumption)
                have q199 : x4_1 < (l0_1.length : Int) := of_decide_eq_true (by first | (with_reducible assumption) | assumption)
                obtain ⟨ad199, e199, hx199_0, hx199_1⟩ := at_T70 HR0_1.out x4_1 p199 q199
                have hw199_1 := hx199_1
                have hw199_0 := hx199_0
                cases e199
                replace hx199_0 := (HB.out.cell (World.block_lt_of_cell? w _ hx199_0)).trans hx199_0
                replace hx199_1 := (HB.out.cell (World.block_lt_of_cell? w _ hx199_1)).trans hx199_1
                replace p199 := eq_true p199
                replace q199 := eq_true q199
                have p200 : 0 ≤ (x4_1 : Int) := of_decide_eq_true (by first | (with_reducible assumption) | assumption)
                have q200 : x4_1 < (l0_1.length : Int) := of_decide_eq_true (by first | (with_reducible assumption) | assumption)
                obtain ⟨ad200, e200, hx200_0, hx200_1⟩ := at_T70 HR0_1.out x4_1 p200 q200
                have hw200_1 := hx200_1
                have hw200_0 := hx200_0
                obtain rfl : ad199 = ad200 := (by injection e200)
                replace hx200_0 := (HB.out.cell (World.block_lt_of_cell? w _ hx200_0)).trans hx200_0
                replace hx200_1 := (HB.out.cell (World.block_lt_of_cell? w _ hx200_1)).trans hx200_1
                replace p200 := eq_true p200
                replace q200 := eq_true q200
                have p33 : 0 ≤ (((rd_T70 l0_1 x4_1).f0) : Int) := of_decide_eq_true (by first | (with_reducible assumption) | assumption)
                have q33 : (((rd_T70 l0_1 x4_1).f0) : Int) < ((x199000_1.length : Int) : Int) := of_decide_eq_true (by first | (with_reducible assumption) | assumption)
                obtain ⟨go33, co33, eo33, gb33, gl33, cl33, HG33⟩ := Kd.R_form HO_199000.out (by omega)
                (first | cases eo33 | (injection eo33 with ea_ en_ ec_; (first | subst ea_ | (injection ea_ with ea_; subst ea_)); subst ec_; clear en_))
                have GB33 := Aside0.mk gb33
                have GG33 := Aside0.mk HG33
                clear gb33 gl33 HG33
                obtain ⟨hx33_0, hf33_0⟩ := Kd.R_celln (⟨#[]⟩ : ByteArray) HO_199000.out (((rd_T70 l0_1 x4_1).f0) : Int) p33 q33
                replace p33 := eq_true p33
                replace q33 := eq_true q33
                have HP38 := Kd.R_putn HO_199000.out (((rd_T70 l0_1 x4_1).f0) : Int) ((rd_T70 l0_1 x4_1).f1)
                rw [← Ny201.out] at HP38
                have HQ38 := Aside0.mk HP38
                clear HP38
                refine start_ (n := 16) (S := fun w' => w'.cell? ⟨gb198, 0, none⟩ = some (.slice (some ⟨go33, 0, none⟩) x199000_1.length co33) ∧ w'.cell? ⟨gb198, 1, none⟩ = some (.slice Ao27 t193.length co27) ∧ w'.cell? ⟨gb198, 2, none⟩ = some (.int .i64 t196) ∧ w'.cell? ⟨gb198, 3, none⟩ = some (.int .i64 t197) ∧ w'.cell? ⟨gb188, 0, none⟩ = some (.slice A0_0 l0_0.length c0_0) ∧ w'.cell? ⟨gb188, 1, none⟩ = some (.slice (some ad199) l0_1.length c0_1) ∧ w'.cell? ⟨gb188, 2, none⟩ = some (.int .i64 a0_2) ∧ w'.cell? ⟨gb188, 3, none⟩ = some (.int .i64 a0_3) ∧ w'.cell? (ad199.add ((x4_1).toNat * 2)) = some (.int .i64 ((rd_T70 l0_1 x4_1).f0)) ∧ w'.cell? ⟨(ad199.add ((x4_1).toNat * 2)).block, (ad199.add ((x4_1).toNat * 2)).off + 1, none⟩ = some (.string ((rd_T70 l0_1 x4_1).f1)) ∧ w'.cell? (ad199.add ((x4_1).toNat * 2)) = some (.int .i64 ((rd_T70 l0_1 x4_1).f0)) ∧ w'.cell? ⟨(ad199.add ((x4_1).toNat * 2)).block, (ad199.add ((x4_1).toNat * 2)).off + 1, none⟩ = some (.string ((rd_T70 l0_1 x4_1).f1))) (ds := [15]) #[false, false, false, false, false, false, false, false, false, false, false, false, false, false, false, false] (by kernel_rfl) rfl rfl ⟨(qA BK198.out 0).trans rfl, (qA BK198.out 1).trans rfl, (qA BK198.out 2).trans rfl, (qA BK198.out 3).trans rfl, (qA BK188.out 0).trans rfl, (qA BK188.out 1).trans rfl, (qA BK188.out 2).trans rfl, (qA BK188.out 3).trans rfl, ((HB.out.cell (World.block_lt_of_cell? w _ hw199_0)).trans hw199_0), ((HB.out.cell (World.block_lt_of_cell? w _ hw199_1)).trans hw199_1), ((HB.out.cell (World.block_lt_of_cell? w _ hw200_0)).trans hw200_0), ((HB.out.cell (World.block_lt_of_cell? w _ hw200_1)).trans hw200_1)⟩ (fun hHeld => ?_); refine with_tabW spec_l7Sync.tab7 spec_l7Sync.bits7 (fun HT_ HW_ => ?_)
                generalize wr.drew = w37 at HO_199000 HO_199001 BK188 BK189 BK198 HB GG33 HQ38 hf33_0 hx199_0 hx199_1 hx200_0 hx200_1 hx33_0 hHeld ⊢
                refine pure_ (i := 0) (N := some 18) (v := ?_) (a' := ?_) #[true, false, false, false, false, false, false, false, false, false, false, false, false, false, false, false] rfl rfl (zI HT_.out (by kernel_rfl)) (fun _ _ _ h => h) (Or.inl ⟨by rfl, ?_⟩) ?_ ?_
                rotate_left
                · intro w'
                  go_simp
                  with_reducible rfl
                rotate_left
                · simp only [Act.put, List.setIfInBounds_toArray, List.set_cons_zero, List.set_cons_succ, i64_w, i32_w]
                  rfl
                refine pure_ (i := 2) (N := some 20) (v := ?_) (a' := ?_) #[true, false, true, false, false, false, false, false, false, false, false, false, false, false, false, false] rfl rfl (zI HT_.out (by kernel_rfl)) (fun _ _ _ h => h) (Or.inl ⟨by rfl, ?_⟩) ?_ ?_
                rotate_left
                · intro w'
                  go_simp
                  with_reducible rfl
                rotate_left
                · simp only [Act.put, List.setIfInBounds_toArray, List.set_cons_zero, List.set_cons_succ, i64_w, i32_w]
                  rfl
                refine pure_ (i := 4) (N := some 22) (v := ?_) (a' := ?_) #[true, false, true, false, true, false, false, false, false, false, false, false, false, false, false, false] rfl rfl (zI HT_.out (by kernel_rfl)) (fun _ _ _ h => h) (Or.inl ⟨by rfl, ?_⟩) ?_ ?_
                rotate_left
                · intro w'
                  go_simp
                  with_reducible rfl
                rotate_left
                · simp only [Act.put, List.setIfInBounds_toArray, List.set_cons_zero, List.set_cons_succ, i64_w, i32_w]
                  rfl
                refine pure_ (i := 8) (N := some 26) (v := ?_) (a' := ?_) #[true, false, true, false, true, false, false, false, true, false, false, false, false, false, false, false] rfl rfl (zI HT_.out (by kernel_rfl)) (fun _ _ _ h => h) (Or.inl ⟨by rfl, ?_⟩) ?_ ?_
                rotate_left
                · intro w'
                  go_simp
                  with_reducible rfl
                rotate_left
                · simp only [Act.put, List.setIfInBounds_toArray, List.set_cons_zero, List.set_cons_succ, i64_w, i32_w]
                  rfl
                refine pure_ (i := 10) (N := some 28) (v := ?_) (a' := ?_) #[true, false, true, false, true, false, false, false, true, false, true, false, false, false, false, false] rfl rfl (zI HT_.out (by kernel_rfl)) (fun _ _ _ h => h) (Or.inl ⟨by rfl, ?_⟩) ?_ ?_
                rotate_left
                · intro w'
                  go_simp
                  with_reducible rfl
                rotate_left
                · simp only [Act.put, List.setIfInBounds_toArray, List.set_cons_zero, List.set_cons_succ, i64_w, i32_w]
                  rfl
                refine take_ (i := 1) (N := some 19) (v := ?_) (a' := ?_) #[true, true, true, false, true, false, false, false, true, false, true, false, false, false, false, false] rfl rfl (zX HT_.out HW_.out (by kernel_rfl)) (fun _ _ _ h => h) (Or.inl ⟨by rfl, ?_⟩) hHeld ?_ ?_
                rotate_left
                · rintro w' ⟨s0, s1, s2, s3, s4, s5, s6, s7, s8, s9, s10, s11⟩
                  go_simp
                  with_reducible rfl
                rotate_left
                · simp only [Act.put, List.setIfInBounds_toArray, List.set_cons_zero, List.set_cons_succ, i64_w, i32_w]
                  rfl
                refine take_ (i := 3) (N := some 21) (v := ?_) (a' := ?_) #[true, true, true, true, true, false, false, false, true, false, true, false, false, false, false, false] rfl rfl (zX HT_.out HW_.out (by kernel_rfl)) (fun _ _ _ h => h) (Or.inl ⟨by rfl, ?_⟩) hHeld ?_ ?_
                rotate_left
                · rintro w' ⟨s0, s1, s2, s3, s4, s5, s6, s7, s8, s9, s10, s11⟩
                  go_simp
                  with_reducible rfl
                rotate_left
                · simp only [Act.put, List.setIfInBounds_toArray, List.set_cons_zero, List.set_cons_succ, i64_w, i32_w]
                  rfl
                refine pure_ (i := 5) (N := some 23) (v := ?_) (a' := ?_) #[true, true, true, true, true, true, false, false, true, false, true, false, false, false, false, false] rfl rfl (zI HT_.out (by kernel_rfl)) (fun _ _ _ h => h) (Or.inl ⟨by rfl, ?_⟩) ?_ ?_
                rotate_left
                · intro w'
                  go_simp
                  with_reducible rfl
                rotate_left
                · simp only [Act.put, List.setIfInBounds_toArray, List.set_cons_zero, List.set_cons_succ, i64_w, i32_w]
                  rfl
                refine pure_ (i := 6) (N := some 24) (v := ?_) (a' := ?_) #[true, true, true, true, true, true, true, false, true, false, true, false, false, false, false, false] rfl rfl (zI HT_.out (by kernel_rfl)) (fun _ _ _ h => h) (Or.inl ⟨by rfl, ?_⟩) ?_ ?_
                rotate_left
                · intro w'
                  go_simp
                  with_reducible rfl
                rotate_left
                · simp only [Act.put, List.setIfInBounds_toArray, List.set_cons_zero, List.set_cons_succ, i64_w, i32_w]
                  rfl
                refine take_ (i := 7) (N := some 25) (v := ?_) (a' := ?_) #[true, true, true, true, true, true, true, true, true, false, true, false, false, false, false, false] rfl rfl (zX HT_.out HW_.out (by kernel_rfl)) (fun _ _ _ h => h) (Or.inl ⟨by rfl, ?_⟩) hHeld ?_ ?_
                rotate_left
                · rintro w' ⟨s0, s1, s2, s3, s4, s5, s6, s7, s8, s9, s10, s11⟩
                  go_simp
                  with_reducible rfl
                rotate_left
                · simp only [Act.put, List.setIfInBounds_toArray, List.set_cons_zero, List.set_cons_succ, i64_w, i32_w]
                  rfl
                refine take_ (i := 9) (N := some 27) (v := ?_) (a' := ?_) #[true, true, true, true, true, true, true, true, true, true, true, false, false, false, false, false] rfl rfl (zX HT_.out HW_.out (by kernel_rfl)) (fun _ _ _ h => h) (Or.inl ⟨by rfl, ?_⟩) hHeld ?_ ?_
                rotate_left
                · rintro w' ⟨s0, s1, s2, s3, s4, s5, s6, s7, s8, s9, s10, s11⟩
                  go_simp
                  with_reducible rfl
                rotate_left
                · simp only [Act.put, List.setIfInBounds_toArray, List.set_cons_zero, List.set_cons_succ, i64_w, i32_w]
                  rfl
                refine pure_ (i := 11) (N := some 29) (v := ?_) (a' := ?_) #[true, true, true, true, true, true, true, true, true, true, true, true, false, false, false, false] rfl rfl (zI HT_.out (by kernel_rfl)) (fun _ _ _ h => h) (Or.inl ⟨by rfl, ?_⟩) ?_ ?_
                rotate_left
                · intro w'
                  go_simp
                  with_reducible rfl
                rotate_left
                · simp only [Act.put, List.setIfInBounds_toArray, List.set_cons_zero, List.set_cons_succ, i64_w, i32_w]
                  rfl
                refine pure_ (i := 12) (N := some 30) (v := ?_) (a' := ?_) #[true, true, true, true, true, true, true, true, true, true, true, true, true, false, false, false] rfl rfl (zI HT_.out (by kernel_rfl)) (fun _ _ _ h => h) (Or.inl ⟨by rfl, ?_⟩) ?_ ?_
                rotate_left
                · intro w'
                  go_simp
                  with_reducible rfl
                rotate_left
                · simp only [Act.put, List.setIfInBounds_toArray, List.set_cons_zero, List.set_cons_succ, i64_w, i32_w]
                  rfl
                refine take_ (i := 13) (N := some 31) (v := ?_) (a' := ?_) #[true, true, true, true, true, true, true, true, true, true, true, true, true, true, false, false] rfl rfl (zX HT_.out HW_.out (by kernel_rfl)) (fun _ _ _ h => h) (Or.inl ⟨by rfl, ?_⟩) hHeld ?_ ?_
                rotate_left
                · rintro w' ⟨s0, s1, s2, s3, s4, s5, s6, s7, s8, s9, s10, s11⟩
                  go_simp
                  with_reducible rfl
                rotate_left
                · simp only [Act.put, List.setIfInBounds_toArray, List.set_cons_zero, List.set_cons_succ, i64_w, i32_w]
                  rfl
                refine pure_ (i := 14) (N := some 32) (v := ?_) (a' := ?_) #[true, true, true, true, true, true, true, true, true, true, true, true, true, true, true, false] rfl rfl (zI HT_.out (by kernel_rfl)) (fun _ _ _ h => h) (Or.inl ⟨by rfl, ?_⟩) ?_ ?_
                rotate_left
                · intro w'
                  go_simp
                  with_reducible rfl
                rotate_left
                · simp only [Act.put, List.setIfInBounds_toArray, List.set_cons_zero, List.set_cons_succ, i64_w, i32_w]
                  rfl
                refine last_ (i := 15) (N := none) #[true, true, true, true, true, true, true, true, true, true, true, true, true, true, true, true] rfl rfl (zW HT_.out (by kernel_rfl)) (by decide) (fun K hK => ?_)
                refine skip_ (w1 := ?_) (by rfl) rfl ?_ ?_
                rotate_left
                · go_simp
                  rfl
                refine hK.out _ _ ?_
                clear hK K
                refine done_ (done_of HT_.out (by kernel_rfl)) ?_
                try go_wp2
                go_roundg k1
                case measure => have := HK1.out; omega
                case rel => exact ⟨(wrap64 (x4_1 + 1)), (y201), (.slice (some ⟨go33, 0, none⟩) x199000_1.length co33), (by first | rfl | (simp; done) | (simp [*]; done)), H', ⟨by have := HK1.out; omega⟩, ⟨by (with_reducible repeat (first | apply Kd.qU | apply Kd.qT | apply Kd.qV)); exact HQ38.out⟩, ⟨by (with_reducible repeat (first | apply Kd.qU | apply Kd.qT | apply Kd.qV)); exact Kd.qS (Kd.R_far (p := ⟨go33, (((rd_T70 l0_1 x4_1).f0) : Int).toNat, none⟩) (Kd.qW HO_199001.out GG33.out (by decide)) (fun _ hk => hk.2) (.string ((rd_T70 l0_1 x4_1).f1))) (fun _ hk => trivial)⟩, ⟨by (with_reducible repeat (first | refine qH ?_ _ | refine qI ?_ | refine qE ?_ _)); refine qR ?_ (by have h_ := Kd.R_ne HO_199000.out BK188.out (by decide); intro e_; exact h_ (by rw [e_]; rfl)) _; (with_reducible repeat (first | refine qH ?_ _ | refine qI ?_ | refine qE ?_ _)); exact BK188.out⟩, ⟨by (with_reducible repeat (first | refine qH ?_ _ | refine qI ?_ | refine qE ?_ _)); refine qR ?_ (by have h_ := Kd.R_ne HO_199000.out BK189.out (by decide); intro e_; exact h_ (by rw [e_]; rfl)) _; (with_reducible repeat (first | refine qH ?_ _ | refine qI ?_ | refine qE ?_ _)); exact BK189.out⟩, ⟨by (with_reducible repeat (first | refine qH ?_ _ | refine qI ?_ | refine qE ?_ _)); refine qR ?_ (by have h_ := Kd.R_ne HO_199000.out BK198.out (by decide); intro e_; exact h_ (by rw [e_]; rfl)) _; (with_reducible repeat (first | refine qH ?_ _ | refine qI ?_ | refine qE ?_ _)); exact BK198.out⟩, ⟨by repeat (first | (with_reducible first | exact HB.out | apply qG | apply qD | apply qF | refine qC ?_ GB33.out | refine qC ?_ GE188.out | refine qC ?_ GE189.out | refine qC ?_ GE198.out) | exact HB.out)⟩⟩
              · rw [if_neg c32] at H
                exact absurd H (by simp)
            · rw [if_neg c31] at H
              exact absurd H (by simp)
          · rw [if_neg c30] at H
            exact absurd H (by simp)
        · rw [if_neg c29] at H
          have c29b0 : decide (x4_1 < (l0_1.length : Int)) = false := decide_eq_false c29
          clear c29
          replace H := Option.bind_eq_some_iff.mp H
          obtain ⟨t202, A390, H⟩ := H
          replace H : (some (x199000_1, ([] : List (S70)), t196, t202)) = some (r1, r2, r3, r4) := H
          have A39 := Aside0.mk A390
          clear A390
          simp only [Option.some.injEq, Prod.mk.injEq] at H
          obtain ⟨rfl, rfl, rfl, rfl⟩ := H
          have hnb40 := NB188_189.out
          have hnc40 := NB189_188.out
          have hnb41 := NB188_198.out
          have hnc41 := NB198_188.out
          have hcz42_0 : wr.cell? ⟨gb188, 0, none⟩ = some (.slice A0_0 l0_0.length c0_0) := (qA BK188.out 0).trans rfl
          have hcz42_1 : wr.cell? ⟨gb188, 1, none⟩ = some (.slice A0_1 l0_1.length c0_1) := (qA BK188.out 1).trans rfl
          have hcz42_2 : wr.cell? ⟨gb188, 2, none⟩ = some (.int .i64 a0_2) := (qA BK188.out 2).trans rfl
          have hcz42_3 : wr.cell? ⟨gb188, 3, none⟩ = some (.int .i64 a0_3) := (qA BK188.out 3).trans rfl
          have hfz42_0 := qB BK188.out 0
          have hfz42_1 := qB BK188.out 1
          have hfz42_2 := qB BK188.out 2
          have hfz42_3 := qB BK188.out 3
          have hnb43 := NB198_189.out
          have hnc43 := NB189_198.out
          have hcz44_0 : wr.cell? ⟨gb198, 0, none⟩ = some (u199000) := (qA BK198.out 0).trans rfl
          have hcz44_1 : wr.cell? ⟨gb198, 1, none⟩ = some (.slice Ao27 t193.length co27) := (qA BK198.out 1).trans rfl
          have hcz44_2 : wr.cell? ⟨gb198, 2, none⟩ = some (.int .i64 t196) := (qA BK198.out 2).trans rfl
          have hcz44_3 : wr.cell? ⟨gb198, 3, none⟩ = some (.int .i64 t197) := (qA BK198.out 3).trans rfl
          have hfz44_0 := qB BK198.out 0
          have hfz44_1 := qB BK198.out 1
          have hfz44_2 := qB BK198.out 2
          have hfz44_3 := qB BK198.out 3
          go_wp2_with (first | ((with_reducible refine qX (f := 69) rfl ?_); refine zM (some 36) rfl rfl Try.func69 (by kernel_rfl) rfl #[.int .i64 a0_3] rfl (by (try simp only [List.map_toArray, List.map_cons, List.map_nil]); first | done | rfl | (simp only [List.length_drop, List.length_take]; rfl)) ?_; (with_reducible refine (spec_l7Less.calls a0_3 t202 _ A39.out).mono ?_); rintro e w' ⟨rfl, ⟨nd, rfl⟩⟩; refine ⟨_, rfl, ?_⟩; obtain ⟨Ao45, co45, eo45⟩ := Kd.zD HO_199000.out; subst eo45; have hcz46_0 : wr.cell? ⟨gb189, 0, none⟩ = some (.slice none 0 0) := (qA BK189.out 0).trans rfl; have hcz46_1 : wr.cell? ⟨gb189, 1, none⟩ = some (.slice none 0 0) := (qA BK189.out 1).trans rfl; have hcz46_2 : wr.cell? ⟨gb189, 2, none⟩ = some (.int .i64 0) := (qA BK189.out 2).trans rfl; have hcz46_3 : wr.cell? ⟨gb189, 3, none⟩ = some (.int .i64 0) := (qA BK189.out 3).trans rfl; have hfz46_0 := qB BK189.out 0; have hfz46_1 := qB BK189.out 1; have hfz46_2 := qB BK189.out 2; have hfz46_3 := qB BK189.out 3))
          refine bodyPost_ret (results_cell_row rfl _ _ gb189 26 #[.slice Ao45 x199000_1.length co45, .slice none 0 0, .int .i64 t196, .int .i64 t202] (0, 0) _ rfl (by (with_reducible repeat (first | refine qH ?_ _ | refine qI ?_ | refine qE ?_ _)); refine qN (cs := #[.slice Ao45 x199000_1.length co45, .slice none 0 0, .int .i64 t196, .int .i64 0]) ?_ 3 _ rfl; (with_reducible repeat (first | refine qH ?_ _ | refine qI ?_ | refine qE ?_ _)); refine qN (cs := #[.slice Ao45 x199000_1.length co45, .slice none 0 0, .int .i64 0, .int .i64 0]) ?_ 2 _ rfl; (with_reducible repeat (first | refine qH ?_ _ | refine qI ?_ | refine qE ?_ _)); refine qN (cs := #[.slice Ao45 x199000_1.length co45, .slice none 0 0, .int .i64 0, .int .i64 0]) ?_ 1 _ rfl; (with_reducible repeat (first | refine qH ?_ _ | refine qI ?_ | refine qE ?_ _)); refine qN (cs := #[.slice none 0 0, .slice none 0 0, .int .i64 0, .int .i64 0]) ?_ 0 _ rfl; (with_reducible repeat (first | refine qH ?_ _ | refine qI ?_ | refine qE ?_ _)); refine qR ?_ NB189_198.out _; (with_reducible repeat (first | refine qH ?_ _ | refine qI ?_ | refine qE ?_ _)); refine qR ?_ NB189_198.out _; (with_reducible repeat (first | refine qH ?_ _ | refine qI ?_ | refine qE ?_ _)); exact BK189.out) Try.underlying26 rfl (by kernel_rfl)) rfl ?_
          exact ⟨_, _, by first | rfl | (simp [errW_none, errW_some] <;> rfl) | (simp [*, errW_none, errW_some] <;> rfl), by (with_reducible repeat (first | apply Kd.qU | apply Kd.qT | apply Kd.qV)); exact Kd.qS (Kd.R_far (p := ⟨gb189, 3, none⟩) (Kd.R_far (p := ⟨gb189, 2, none⟩) (Kd.R_far (p := ⟨gb189, 1, none⟩) (Kd.R_far (p := ⟨gb189, 0, none⟩) (Kd.R_far (p := ⟨gb198, 3, none⟩) (Kd.R_far (p := ⟨gb198, 1, none⟩) (Kd.qW (Kd.qW HO_199000.out BK198.out (by decide)) BK189.out (by decide)) (fun _ hk => hk.1.2) (.slice none 0 0)) (fun _ hk => hk.1.2) (.int .i64 t202)) (fun _ hk => hk.2) (.slice Ao45 x199000_1.length co45)) (fun _ hk => hk.2) (.slice none 0 0)) (fun _ hk => hk.2) (.int .i64 t196)) (fun _ hk => hk.2) (.int .i64 t202)) (fun _ hk => trivial), by first | exact Kd.R_nil _ _ _ _ _ | exact Kd.N_nil _ _ _ _ _ | exact Kd.V_nil _ _ _ _ _ | exact Kd.Q_nil _ _ _ _ _ | exact Kd.S_nil _ _ _ _ _, by repeat (first | (with_reducible first | exact HB.out | apply qG | apply qD | apply qF | refine qC ?_ GE188.out | refine qC ?_ GE189.out | refine qC ?_ GE198.out) | exact HB.out)⟩

/-! ### spec_DiskNew: function 80 -/
def spec_DiskNew.f  : Option (List ByteArray × (List (S70)) × Int × Int) := if 42 ≤ 17592186044416 then (some ((List.replicate 42 (⟨#[]⟩ : ByteArray)), ([] : List (S70)), (-1), (-1))) else (none)
set_option maxHeartbeats 8000000 in
set_option maxRecDepth 100000 in
theorem spec_DiskNew.calls  (r1 : List ByteArray) (r2 : List (S70)) (r3 : Int) (r4 : Int) (w : World) (h : spec_DiskNew.f  = some (r1, r2, r3, r4)) :
    Calls Try.prog 80 #[] w fun e w' => ∃ v0_ v1_ : Value, e = .returned (.agg #[v0_, v1_, .int .i64 r3, .int .i64 r4]) ∧ Kd.R Kd.string 9 w' w.heap.size (fun _ => True) v0_ r1 ∧ Kd.R k70 70 w' w.heap.size (fun _ => True) v1_ r2 ∧ Below w.heap.size w w' := by
  have hu26 := Try.underlying26
  have HB := Aside0.mk (Below.refl w.heap.size w)
  have H : (if 42 ≤ 17592186044416 then (some ((List.replicate 42 (⟨#[]⟩ : ByteArray)), ([] : List (S70)), (-1), (-1))) else (none)) = some (r1, r2, r3, r4) := h
  clear h
  by_cases c1 : 42 ≤ 17592186044416
  · rw [if_pos c1] at H
    have c1b0 := eq_true c1
    have c1b1 : decide (42 ≤ 17592186044416) = true := decide_eq_true c1
    clear c1
    obtain ⟨y204, hy204⟩ : ∃ y_ : List ByteArray, y_ = (List.replicate 42 (⟨#[]⟩ : ByteArray)) := ⟨_, rfl⟩
    replace H : (some (y204, ([] : List (S70)), (-1), (-1))) = some (r1, r2, r3, r4) := by first | (rw [hy204]; with_reducible exact H) | (have H2_ := (Option.bind_some _ _).symm.trans H; rw [hy204]; with_reducible exact H2_) | (have H2_ := (Option.bind_some _ _).symm.trans H; with_reducible exact H2_) | with_reducible exact H | (rw [hy204]; exact H) | exact H
    have Ny204 := Aside0.mk hy204
    clear hy204
    simp only [Option.some.injEq, Prod.mk.injEq] at H
    obtain ⟨rfl, rfl, rfl, rfl⟩ := H
    go_enter Try.func80, Try.ntmps80
    go_wp2_with (first | ((with_reducible refine qZ (N := 0) rfl ?_); refine qY ?hg (N := 0) ?hd (cs := #[.slice none 0 0, .slice none 0 0, .int .i64 0, .int .i64 0]) (t := 26) ?hr ?_; (case hd => rfl); (case hg => rfl); (case hr => first | (go_simp; done) | (go_simp; rfl)); intro gb203 hg w2 hbox hb; have n0_ := Aside0.mk (qQ (by repeat (first | (with_reducible first | exact HB.out | apply qG | apply qD | apply qF) | exact HB.out)) hb); have n1_ := Aside0.mk (hbox); have n2_ := Aside0.mk ((by rw [hg]; exact (qP (by repeat (first | (with_reducible first | exact HB.out | apply qG | apply qD | apply qF) | exact HB.out))) : w.heap.size ≤ gb203)); have n3_ := Aside0.mk ((by rw [hg]; exact (qP (by repeat (first | (with_reducible first | exact HB.out | apply qG | apply qD | apply qF) | exact HB.out))) : w.heap.size ≤ gb203)); clear HB; have HB := n0_; have BK203 := n1_; have GW203 := n2_; have GE203 := n3_; clear n0_ n1_ n2_ n3_; clear hb hbox hg) | ((with_reducible refine qZ (N := 1) rfl ?_); refine Kd.R_make Kd.string _ 9 rfl (N := 1) rfl 23 _ _ rfl 42 rfl rfl Try.underlying23 (.string ⟨#[]⟩) 16 info9 rfl (by decide) (by omega) (⟨#[]⟩ : ByteArray) (ok := fun _ => True) (okp := fun _ => True) rfl (fun _ hk => hk) trivial (by omega) (by omega) (Below.refl _ _) (Nat.le_refl _) ?_; intro v205 w3 ho4 hb hg_ hnew_; clear hg_ hnew_; (first | rw [← Ny204.out] at ho4 | (simp only [Int.reduceToNat] at ho4; rw [← Ny204.out] at ho4)); have n0_ := Aside0.mk (Kd.zJ ho4 (qP (by repeat (first | (with_reducible first | exact HB.out | apply qG | apply qD | apply qF | refine qC ?_ GE203.out) | exact HB.out)))); have n1_ := Aside0.mk (qL (g := gb203) (o := .cells #[.slice none 0 0, .slice none 0 0, .int .i64 0, .int .i64 0] 26 (0, 0)) (bw_ BK203.out) hb); have n2_ := Aside0.mk (qQ (by repeat (first | (with_reducible first | exact HB.out | apply qG | apply qD | apply qF | refine qC ?_ GE203.out) | exact HB.out)) hb); clear BK203; clear HB; have HO206 := n0_; have BK203 := n1_; have HB := n2_; clear n0_ n1_ n2_; clear hb ho4; obtain ⟨Ao5, co5, eo5⟩ := Kd.zD HO206.out; subst eo5; have hcz6_0 : w3.cell? ⟨gb203, 0, none⟩ = some (.slice none 0 0) := (qA BK203.out 0).trans rfl; have hcz6_1 : w3.cell? ⟨gb203, 1, none⟩ = some (.slice none 0 0) := (qA BK203.out 1).trans rfl; have hcz6_2 : w3.cell? ⟨gb203, 2, none⟩ = some (.int .i64 0) := (qA BK203.out 2).trans rfl; have hcz6_3 : w3.cell? ⟨gb203, 3, none⟩ = some (.int .i64 0) := (qA BK203.out 3).trans rfl; have hfz6_0 := qB BK203.out 0; have hfz6_1 := qB BK203.out 1; have hfz6_2 := qB BK203.out 2; have hfz6_3 := qB BK203.out 3))
    refine bodyPost_ret (results_cell_row rfl _ _ gb203 26 #[.slice Ao5 y204.length co5, .slice none 0 0, .int .i64 (-1), .int .i64 (-1)] (0, 0) _ rfl (by (with_reducible repeat (first | refine qH ?_ _ | refine qI ?_ | refine qE ?_ _)); refine qN (cs := #[.slice Ao5 y204.length co5, .slice none 0 0, .int .i64 (-1), .int .i64 0]) ?_ 3 _ rfl; (with_reducible repeat (first | refine qH ?_ _ | refine qI ?_ | refine qE ?_ _)); refine qN (cs := #[.slice Ao5 y204.length co5, .slice none 0 0, .int .i64 0, .int .i64 0]) ?_ 2 _ rfl; (with_reducible repeat (first | refine qH ?_ _ | refine qI ?_ | refine qE ?_ _)); refine qN (cs := #[.slice Ao5 y204.length co5, .slice none 0 0, .int .i64 0, .int .i64 0]) ?_ 1 _ rfl; (with_reducible repeat (first | refine qH ?_ _ | refine qI ?_ | refine qE ?_ _)); refine qN (cs := #[.slice none 0 0, .slice none 0 0, .int .i64 0, .int .i64 0]) ?_ 0 _ rfl; (with_reducible repeat (first | refine qH ?_ _ | refine qI ?_ | refine qE ?_ _)); exact BK203.out) Try.underlying26 rfl (by kernel_rfl)) rfl ?_
    exact ⟨_, _, by first | rfl | (simp [errW_none, errW_some] <;> rfl) | (simp [*, errW_none, errW_some] <;> rfl), by (with_reducible repeat (first | apply Kd.qU | apply Kd.qT | apply Kd.qV)); exact Kd.qS (Kd.R_far (p := ⟨gb203, 3, none⟩) (Kd.R_far (p := ⟨gb203, 2, none⟩) (Kd.R_far (p := ⟨gb203, 1, none⟩) (Kd.R_far (p := ⟨gb203, 0, none⟩) (Kd.qW HO206.out BK203.out (by decide)) (fun _ hk => hk.2) (.slice Ao5 y204.length co5)) (fun _ hk => hk.2) (.slice none 0 0)) (fun _ hk => hk.2) (.int .i64 (-1))) (fun _ hk => hk.2) (.int .i64 (-1))) (fun _ hk => trivial), by first | exact Kd.R_nil _ _ _ _ _ | exact Kd.N_nil _ _ _ _ _ | exact Kd.V_nil _ _ _ _ _ | exact Kd.Q_nil _ _ _ _ _ | exact Kd.S_nil _ _ _ _ _, by repeat (first | (with_reducible first | exact HB.out | apply qG | apply qD | apply qF | refine qC ?_ GE203.out) | exact HB.out)⟩
  · rw [if_neg c1] at H
    exact absurd H (by simp)

end Go.Proofs.Ytepihebkdnmppaa.Aj
