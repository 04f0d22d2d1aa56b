/- Walks of the seat's functions, written by a program of this session (xprint.py) with the kit's printer: each call comes to just what its Lean function says. -/
import Derived.Test.YtepihebkdnmppaaxAg0
import Derived.Test.YtepihebkdnmppaaxAg2
import Derived.Test.YtepihebkdnmppaaxAg3
namespace Go.Proofs.Ytepihebkdnmppaa.Ag
open Go.RowKit Go.Proofs.YtepihebkdnmppaaV.PrintWords Go.Proofs.YtepihebkdnmppaaV.PrintLast Go.Proofs.YtepihebkdnmppaaV.PrintMore
attribute [local go_sem] xB xC max_two min_two zT zU xD xE   -- for this text's walks alone
attribute [local go_sem high] World.zH
set_option linter.unusedVariables false
set_option linter.unusedSimpArgs false

/-! ### spec_l7Write: function 43 -/
def spec_l7Write.j0 : Nat → Bool → List ByteArray → List (S70) → Int → Int → Int → ByteArray → Option (List ByteArray × (List (S70)) × Int × Int × Bool)
  | 0, _, _, _, _, _, _, _ => none
  | k + 1, x31, x134000, x134001, x134002, x134003, x136000, x136001 => if x31 = true then ((spec_l7Copy.f x134000 x134001 x134002 x134003).bind fun bt145 => (some (bt145.1, bt145.2.1, bt145.2.2.1, bt145.2.2.2, false))) else ((spec_l7Copy.f x134000 x134001 x134002 x134003).bind fun bt153 => (if bt153.2.1.length < 5864062014805 then ((spec_l7Less.f x134003).bind fun t165 => ((spec_l7Less.f x134002).bind fun t166 => (some (bt153.1, (bt153.2.1 ++ [(⟨x136000, x136001⟩ : S70)]), t166, t165, true)))) else (none)))
def spec_l7Write.f (k : Nat) (l0_0 : List ByteArray) (l0_1 : List (S70)) (a0_2 : Int) (a0_3 : Int) (a1 : Int) (a2 : ByteArray) : Option (List ByteArray × (List (S70)) × Int × Int × Bool) := if a0_3 = 0 then ((spec_l7Copy.f l0_0 l0_1 a0_2 a0_3).bind fun bt136 => (some (bt136.1, bt136.2.1, bt136.2.2.1, bt136.2.2.2, true))) else ((spec_l7Wait.f a1 a2).bind fun t144 => (if t144 = true then (if a0_2 = 0 then (spec_l7Write.j0 k true l0_0 l0_1 a0_2 a0_3 a1 a2) else (spec_l7Write.j0 k (decide ((l0_1.length : Int) ≥ 100)) l0_0 l0_1 a0_2 a0_3 a1 a2)) else (spec_l7Write.j0 k true l0_0 l0_1 a0_2 a0_3 a1 a2)))
theorem spec_l7Write.mono_l : ∀ k, (∀ y0 y1 y2 y3 y4 y5 y6, LeO (spec_l7Write.j0 k y0 y1 y2 y3 y4 y5 y6) (spec_l7Write.j0 (k + 1) y0 y1 y2 y3 y4 y5 y6))
  | 0 => fun _ _ _ _ _ _ _ r h => by simp [spec_l7Write.j0] at h
  | k + 1 => by
    have ih0 := spec_l7Write.mono_l k
    · intro y0 y1 y2 y3 y4 y5 y6
      unfold spec_l7Write.j0
      repeat' first
      | (with_reducible exact ih0 _ _ _ _ _ _ _)
      | (with_reducible exact LeO.refl _)
      | (with_reducible exact LeO.none _)
      | (with_reducible refine LeO.ite ?_ ?_)
      | (with_reducible refine LeO.bind ?_ (fun _ => ?_))
      | exact ih0 _ _ _ _ _ _ _
      | exact LeO.none _
      | refine LeO.ite ?_ ?_
      | refine LeO.bind ?_ (fun _ => ?_)
theorem spec_l7Write.mono : ∀ a0 a1 a2 a3 a4 a5 k, LeO (spec_l7Write.f k a0 a1 a2 a3 a4 a5) (spec_l7Write.f (k + 1) a0 a1 a2 a3 a4 a5) := by
  intro a0 a1 a2 a3 a4 a5 k
  have ih0 := spec_l7Write.mono_l k
  unfold spec_l7Write.f
  repeat' first
      | (with_reducible exact ih0 _ _ _ _ _ _ _)
      | (with_reducible exact LeO.refl _)
      | (with_reducible exact LeO.none _)
      | (with_reducible refine LeO.ite ?_ ?_)
      | (with_reducible refine LeO.bind ?_ (fun _ => ?_))
      | exact ih0 _ _ _ _ _ _ _
      | exact LeO.none _
      | refine LeO.ite ?_ ?_
      | refine LeO.bind ?_ (fun _ => ?_)
set_option maxHeartbeats 8000000 in
set_option maxRecDepth 100000 in
theorem spec_l7Write.calls (k : Nat) (A0_0 : Option Addr) (c0_0 : Nat) (l0_0 : List ByteArray) (A0_1 : Option Addr) (c0_1 : Nat) (l0_1 : List (S70)) (a0_2 : Int) (a0_3 : Int) (a1 : Int) (a2 : ByteArray) (r1 : List ByteArray) (r2 : List (S70)) (r3 : Int) (r4 : Int) (r5 : Bool) (w : World) (hr0_0 : Kd.C Kd.string w A0_0 l0_0.length l0_0) (hc0_0 : l0_0.length ≤ c0_0) (hr0_1 : Kd.C k70 w A0_1 l0_1.length l0_1) (hc0_1 : l0_1.length ≤ c0_1) (h : spec_l7Write.f k l0_0 l0_1 a0_2 a0_3 a1 a2 = some (r1, r2, r3, r4, r5)) :
    Calls Try.prog 43 #[.agg #[.slice A0_0 l0_0.length c0_0, .slice A0_1 l0_1.length c0_1, .int .i64 a0_2, .int .i64 a0_3], .int .i64 a1, .string a2] w fun e w' => ∃ v0_ v1_ : Value, e = .returned (.tuple #[.agg #[v0_, v1_, .int .i64 r3, .int .i64 r4], .bool r5]) ∧ Kd.R Kd.string 9 w' w.heap.size (fun _ => True) v0_ r1 ∧ Kd.R k70 70 w' w.heap.size (fun _ => True) v1_ r2 ∧ Below w.heap.size w w' := by
  have hu26 := Try.underlying26
  have hu70 := Try.underlying70
  have HR0_0 := Aside0.mk hr0_0
  have HC0_0 := Aside0.mk hc0_0
  clear hr0_0 hc0_0
  have HR0_1 := Aside0.mk hr0_1
  have HC0_1 := Aside0.mk hc0_1
  clear hr0_1 hc0_1
  have HB := Aside0.mk (Below.refl w.heap.size w)
  have H : (if a0_3 = 0 then ((spec_l7Copy.f l0_0 l0_1 a0_2 a0_3).bind fun bt136 => (some (bt136.1, bt136.2.1, bt136.2.2.1, bt136.2.2.2, true))) else ((spec_l7Wait.f a1 a2).bind fun t144 => (if t144 = true then (if a0_2 = 0 then (spec_l7Write.j0 k true l0_0 l0_1 a0_2 a0_3 a1 a2) else (spec_l7Write.j0 k (decide ((l0_1.length : Int) ≥ 100)) l0_0 l0_1 a0_2 a0_3 a1 a2)) else (spec_l7Write.j0 k true l0_0 l0_1 a0_2 a0_3 a1 a2)))) = some (r1, r2, r3, r4, r5) := h
  clear h
  by_cases c4 : a0_3 = 0
  · rw [if_pos c4] at H
    have c4b0 : (a0_3 == 0) = true := beq_iff_eq.mpr c4
    have c4b1 : (a0_3 != 0) = false := bne_eq_false_iff_eq.mpr c4
    clear c4
    replace H := Option.bind_eq_some_iff.mp H
    obtain ⟨⟨t136, t139, t142, t143⟩, A50, H⟩ := H
    replace H : (some (t136, t139, t142, t143, true)) = some (r1, r2, r3, r4, r5) := H
    have A5 := Aside0.mk A50
    clear A50
    simp only [Option.some.injEq, Prod.mk.injEq] at H
    obtain ⟨rfl, rfl, rfl, rfl, rfl⟩ := H
    go_enter Try.func43, Try.ntmps43
    go_wp2_with (first | ((with_reducible refine qX (N := 3) rfl ?_); refine qW ?hg (N := 3) ?hd (cs := #[.slice A0_0 l0_0.length c0_0, .slice A0_1 l0_1.length c0_1, .int .i64 a0_2, .int .i64 a0_3]) (t := 26) ?hr ?_; (case hd => rfl); (case hg => rfl); (case hr => first | (go_simp; done) | (go_simp; rfl)); intro gb133 hg w6 hbox hb; have n0_ := Aside0.mk (qO (by repeat (first | (with_reducible first | exact HB.out | apply qH | apply qA | apply qG) | exact HB.out)) hb); have n1_ := Aside0.mk (hbox); have n2_ := Aside0.mk ((by rw [hg]; exact (qM (by repeat (first | (with_reducible first | exact HB.out | apply qH | apply qA | apply qG) | exact HB.out))) : w.heap.size ≤ gb133)); have n3_ := Aside0.mk ((by rw [hg]; exact (qM (by repeat (first | (with_reducible first | exact HB.out | apply qH | apply qA | apply qG) | exact HB.out))) : w.heap.size ≤ gb133)); clear HB; have HB := n0_; have BK133 := n1_; have GW133 := n2_; have GE133 := n3_; clear n0_ n1_ n2_ n3_; clear hb hbox hg) | ((with_reducible refine qX (N := 6) rfl ?_); refine qW ?hg (N := 6) ?hd (cs := #[.slice none 0 0, .slice none 0 0, .int .i64 0, .int .i64 0]) (t := 26) ?hr ?_; (case hd => rfl); (case hg => rfl); (case hr => first | (go_simp; done) | (go_simp; rfl)); intro gb134 hg w7 hbox hb; have n0_ := Aside0.mk (qL (g := gb133) (o := .cells #[.slice A0_0 l0_0.length c0_0, .slice A0_1 l0_1.length c0_1, .int .i64 a0_2, .int .i64 a0_3] 26 (0, 0)) (by (with_reducible repeat (first | refine qE ?_ _ | refine qI ?_ | refine qD ?_ _)); exact BK133.out) hb); have n1_ := Aside0.mk (qO (by repeat (first | (with_reducible first | exact HB.out | apply qH | apply qA | apply qG | refine qF ?_ GE133.out) | exact HB.out)) hb); have n2_ := Aside0.mk (hbox); have n3_ := Aside0.mk ((by rw [hg]; exact (qM (by repeat (first | (with_reducible first | exact HB.out | apply qH | apply qA | apply qG | refine qF ?_ GE133.out) | exact HB.out))) : w.heap.size ≤ gb134)); have n4_ := Aside0.mk ((by rw [hg]; exact (qM (by repeat (first | (with_reducible first | exact HB.out | apply qH | apply qA | apply qG | refine qF ?_ GE133.out) | exact HB.out))) : w.heap.size ≤ gb134)); have n5_ := Aside0.mk ((by rw [hg]; exact Nat.ne_of_lt (zB (g := gb133) (o := .cells #[.slice A0_0 l0_0.length c0_0, .slice A0_1 l0_1.length c0_1, .int .i64 a0_2, .int .i64 a0_3] 26 (0, 0)) (by (with_reducible repeat (first | refine qE ?_ _ | refine qI ?_ | refine qD ?_ _)); exact BK133.out)) : gb133 ≠ gb134)); have n6_ := Aside0.mk ((by rw [hg]; exact Nat.ne_of_gt (zB (g := gb133) (o := .cells #[.slice A0_0 l0_0.length c0_0, .slice A0_1 l0_1.length c0_1, .int .i64 a0_2, .int .i64 a0_3] 26 (0, 0)) (by (with_reducible repeat (first | refine qE ?_ _ | refine qI ?_ | refine qD ?_ _)); exact BK133.out)) : gb134 ≠ gb133)); clear BK133; clear HB; have BK133 := n0_; have HB := n1_; have BK134 := n2_; have GW134 := n3_; have GE134 := n4_; have NB133_134 := n5_; have NB134_133 := n6_; clear n0_ n1_ n2_ n3_ n4_ n5_ n6_; clear hb hbox hg) | ((with_reducible refine qX (N := 8) rfl ?_); refine qW ?hg (N := 8) ?hd (cs := #[.int .i64 0, .string (⟨#[]⟩ : ByteArray)]) (t := 70) ?hr ?_; (case hd => rfl); (case hg => rfl); (case hr => first | (go_simp; done) | (go_simp; rfl)); intro gb135 hg w8 hbox hb; have n0_ := Aside0.mk (qL (g := gb133) (o := .cells #[.slice A0_0 l0_0.length c0_0, .slice A0_1 l0_1.length c0_1, .int .i64 a0_2, .int .i64 a0_3] 26 (0, 0)) (by (with_reducible repeat (first | refine qE ?_ _ | refine qI ?_ | refine qD ?_ _)); exact BK133.out) hb); have n1_ := Aside0.mk (qL (g := gb134) (o := .cells #[.slice none 0 0, .slice none 0 0, .int .i64 0, .int .i64 0] 26 (0, 0)) (by (with_reducible repeat (first | refine qE ?_ _ | refine qI ?_ | refine qD ?_ _)); exact BK134.out) hb); have n2_ := Aside0.mk (qO (by repeat (first | (with_reducible first | exact HB.out | apply qH | apply qA | apply qG | refine qF ?_ GE133.out | refine qF ?_ GE134.out) | exact HB.out)) hb); have n3_ := Aside0.mk (hbox); have n4_ := Aside0.mk ((by rw [hg]; exact (qM (by repeat (first | (with_reducible first | exact HB.out | apply qH | apply qA | apply qG | refine qF ?_ GE133.out | refine qF ?_ GE134.out) | exact HB.out))) : w.heap.size ≤ gb135)); have n5_ := Aside0.mk ((by rw [hg]; exact (qM (by repeat (first | (with_reducible first | exact HB.out | apply qH | apply qA | apply qG | refine qF ?_ GE133.out | refine qF ?_ GE134.out) | exact HB.out))) : w.heap.size ≤ gb135)); have n6_ := Aside0.mk ((by rw [hg]; exact Nat.ne_of_lt (zB (g := gb133) (o := .cells #[.slice A0_0 l0_0.length c0_0, .slice A0_1 l0_1.length c0_1, .int .i64 a0_2, .int .i64 a0_3] 26 (0, 0)) (by (with_reducible repeat (first | refine qE ?_ _ | refine qI ?_ | refine qD ?_ _)); exact BK133.out)) : gb133 ≠ gb135)); have n7_ := Aside0.mk ((by rw [hg]; exact Nat.ne_of_gt (zB (g := gb133) (o := .cells #[.slice A0_0 l0_0.length c0_0, .slice A0_1 l0_1.length c0_1, .int .i64 a0_2, .int .i64 a0_3] 26 (0, 0)) (by (with_reducible repeat (first | refine qE ?_ _ | refine qI ?_ | refine qD ?_ _)); exact BK133.out)) : gb135 ≠ gb133)); have n8_ := Aside0.mk ((by rw [hg]; exact Nat.ne_of_lt (zB (g := gb134) (o := .cells #[.slice none 0 0, .slice none 0 0, .int .i64 0, .int .i64 0] 26 (0, 0)) (by (with_reducible repeat (first | refine qE ?_ _ | refine qI ?_ | refine qD ?_ _)); exact BK134.out)) : gb134 ≠ gb135)); have n9_ := Aside0.mk ((by rw [hg]; exact Nat.ne_of_gt (zB (g := gb134) (o := .cells #[.slice none 0 0, .slice none 0 0, .int .i64 0, .int .i64 0] 26 (0, 0)) (by (with_reducible repeat (first | refine qE ?_ _ | refine qI ?_ | refine qD ?_ _)); exact BK134.out)) : gb135 ≠ gb134)); clear BK133; clear BK134; clear HB; have BK133 := n0_; have BK134 := n1_; have HB := n2_; have BK135 := n3_; have GW135 := n4_; have GE135 := n5_; have NB133_135 := n6_; have NB135_133 := n7_; have NB134_135 := n8_; have NB135_134 := n9_; clear n0_ n1_ n2_ n3_ n4_ n5_ n6_ n7_ n8_ n9_; clear hb hbox hg; have hnb9 := NB135_133.out; have hnc9 := NB133_135.out; have hnb10 := NB135_134.out; have hnc10 := NB134_135.out; have hcz11_0 : w8.cell? ⟨gb135, 0, none⟩ = some (.int .i64 0) := (qC BK135.out 0).trans rfl; have hcz11_1 : w8.cell? ⟨gb135, 1, none⟩ = some (.string (⟨#[]⟩ : ByteArray)) := (qC BK135.out 1).trans rfl; have hfz11_0 := qB BK135.out 0; have hfz11_1 := qB BK135.out 1; have hnb12 := NB133_134.out; have hnc12 := NB134_133.out; have hcz13_0 : w8.cell? ⟨gb133, 0, none⟩ = some (.slice A0_0 l0_0.length c0_0) := (qC BK133.out 0).trans rfl; have hcz13_1 : w8.cell? ⟨gb133, 1, none⟩ = some (.slice A0_1 l0_1.length c0_1) := (qC BK133.out 1).trans rfl; have hcz13_2 : w8.cell? ⟨gb133, 2, none⟩ = some (.int .i64 a0_2) := (qC BK133.out 2).trans rfl; have hcz13_3 : w8.cell? ⟨gb133, 3, none⟩ = some (.int .i64 a0_3) := (qC BK133.out 3).trans rfl; have hfz13_0 := qB BK133.out 0; have hfz13_1 := qB BK133.out 1; have hfz13_2 := qB BK133.out 2; have hfz13_3 := qB BK133.out 3) | ((with_reducible refine qT (f := 38) rfl ?_); refine zD (some 17) rfl rfl Try.func38 (by kernel_rfl) rfl #[.agg #[.slice A0_0 l0_0.length c0_0, .slice A0_1 l0_1.length c0_1, .int .i64 a0_2, .int .i64 a0_3]] rfl (by (try simp only [List.map_toArray, List.map_cons, List.map_nil]); first | done | rfl | (simp only [List.length_drop, List.length_take]; rfl)) ?_; (with_reducible refine (spec_l7Copy.calls _ _ l0_0 _ _ l0_1 a0_2 a0_3 t136 t139 t142 t143 _ ?side1 ?side2 ?side3 ?side4 A5.out).mono ?_); (case side1 => exact Kd.qY HR0_0.out (by repeat (first | (with_reducible first | exact HB.out | apply qH | apply qA | apply qG | refine qF ?_ GE133.out | refine qF ?_ GE134.out | refine qF ?_ GE135.out) | exact HB.out))); (case side2 => exact HC0_0.out); (case side3 => exact Kd.qY HR0_1.out (by repeat (first | (with_reducible first | exact HB.out | apply qH | apply qA | apply qG | refine qF ?_ GE133.out | refine qF ?_ GE134.out | refine qF ?_ GE135.out) | exact HB.out))); (case side4 => exact HC0_1.out); rintro e w14 ⟨v137, v140, rfl, ho0, ho1, hb⟩; refine ⟨_, rfl, ?_⟩; have n0_ := Aside0.mk (Kd.zG ho0 (qM (by repeat (first | (with_reducible first | exact HB.out | apply qH | apply qA | apply qG | refine qF ?_ GE133.out | refine qF ?_ GE134.out | refine qF ?_ GE135.out) | exact HB.out)))); have n1_ := Aside0.mk (Kd.zG (Kd.R_newB ho1 (g := gb135) (o := .cells #[.int .i64 a1, .string a2] 70 (0, 0)) (by (with_reducible repeat (first | refine qE ?_ _ | refine qI ?_ | refine qD ?_ _)); refine qU (cs := #[.int .i64 a1, .string (⟨#[]⟩ : ByteArray)]) ?_ 1 _ rfl; (with_reducible repeat (first | refine qE ?_ _ | refine qI ?_ | refine qD ?_ _)); refine qU (cs := #[.int .i64 0, .string (⟨#[]⟩ : ByteArray)]) ?_ 0 _ rfl; (with_reducible repeat (first | refine qE ?_ _ | refine qI ?_ | refine qD ?_ _)); exact BK135.out)) (qM (by repeat (first | (with_reducible first | exact HB.out | apply qH | apply qA | apply qG | refine qF ?_ GE133.out | refine qF ?_ GE134.out | refine qF ?_ GE135.out) | exact HB.out)))); have n2_ := Aside0.mk (qL (g := gb133) (o := .cells #[.slice A0_0 l0_0.length c0_0, .slice A0_1 l0_1.length c0_1, .int .i64 a0_2, .int .i64 a0_3] 26 (0, 0)) (by (with_reducible repeat (first | refine qE ?_ _ | refine qI ?_ | refine qD ?_ _)); refine qQ ?_ NB133_135.out _; (with_reducible repeat (first | refine qE ?_ _ | refine qI ?_ | refine qD ?_ _)); refine qQ ?_ NB133_135.out _; (with_reducible repeat (first | refine qE ?_ _ | refine qI ?_ | refine qD ?_ _)); exact BK133.out) hb); have n3_ := Aside0.mk (qL (g := gb134) (o := .cells #[.slice none 0 0, .slice none 0 0, .int .i64 0, .int .i64 0] 26 (0, 0)) (by (with_reducible repeat (first | refine qE ?_ _ | refine qI ?_ | refine qD ?_ _)); refine qQ ?_ NB134_135.out _; (with_reducible repeat (first | refine qE ?_ _ | refine qI ?_ | refine qD ?_ _)); refine qQ ?_ NB134_135.out _; (with_reducible repeat (first | refine qE ?_ _ | refine qI ?_ | refine qD ?_ _)); exact BK134.out) hb); have n4_ := Aside0.mk (qL (g := gb135) (o := .cells #[.int .i64 a1, .string a2] 70 (0, 0)) (by (with_reducible repeat (first | refine qE ?_ _ | refine qI ?_ | refine qD ?_ _)); refine qU (cs := #[.int .i64 a1, .string (⟨#[]⟩ : ByteArray)]) ?_ 1 _ rfl; (with_reducible repeat (first | refine qE ?_ _ | refine qI ?_ | refine qD ?_ _)); refine qU (cs := #[.int .i64 0, .string (⟨#[]⟩ : ByteArray)]) ?_ 0 _ rfl; (with_reducible repeat (first | refine qE ?_ _ | refine qI ?_ | refine qD ?_ _)); exact BK135.out) hb); have n5_ := Aside0.mk (qO (by repeat (first | (with_reducible first | exact HB.out | apply qH | apply qA | apply qG | refine qF ?_ GE133.out | refine qF ?_ GE134.out | refine qF ?_ GE135.out) | exact HB.out)) hb); clear BK133; clear BK134; clear BK135; clear HB; have HO138 := n0_; have HO141 := n1_; have BK133 := n2_; have BK134 := n3_; have BK135 := n4_; have HB := n5_; clear n0_ n1_ n2_ n3_ n4_ n5_; (try clear hb); (try clear hb2); (try clear hk); (try clear hi); (try clear ho0); (try clear ho1); obtain ⟨Ao15, co15, eo15⟩ := Kd.zE HO138.out; subst eo15; have hcz16_0 : w14.cell? ⟨gb134, 0, none⟩ = some (.slice none 0 0) := (qC BK134.out 0).trans rfl; have hcz16_1 : w14.cell? ⟨gb134, 1, none⟩ = some (.slice none 0 0) := (qC BK134.out 1).trans rfl; have hcz16_2 : w14.cell? ⟨gb134, 2, none⟩ = some (.int .i64 0) := (qC BK134.out 2).trans rfl; have hcz16_3 : w14.cell? ⟨gb134, 3, none⟩ = some (.int .i64 0) := (qC BK134.out 3).trans rfl; have hfz16_0 := qB BK134.out 0; have hfz16_1 := qB BK134.out 1; have hfz16_2 := qB BK134.out 2; have hfz16_3 := qB BK134.out 3; obtain ⟨Ao17, co17, eo17⟩ := Kd.zE HO141.out; subst eo17))
    refine bodyPost_ret (xA rfl _ _ gb134 26 #[.slice Ao15 t136.length co15, .slice Ao17 t139.length co17, .int .i64 t142, .int .i64 t143] (0, 0) _ rfl (by (with_reducible repeat (first | refine qE ?_ _ | refine qI ?_ | refine qD ?_ _)); refine qU (cs := #[.slice Ao15 t136.length co15, .slice Ao17 t139.length co17, .int .i64 t142, .int .i64 0]) ?_ 3 _ rfl; (with_reducible repeat (first | refine qE ?_ _ | refine qI ?_ | refine qD ?_ _)); refine qU (cs := #[.slice Ao15 t136.length co15, .slice Ao17 t139.length co17, .int .i64 0, .int .i64 0]) ?_ 2 _ rfl; (with_reducible repeat (first | refine qE ?_ _ | refine qI ?_ | refine qD ?_ _)); refine qU (cs := #[.slice Ao15 t136.length co15, .slice none 0 0, .int .i64 0, .int .i64 0]) ?_ 1 _ rfl; (with_reducible repeat (first | refine qE ?_ _ | refine qI ?_ | refine qD ?_ _)); refine qU (cs := #[.slice none 0 0, .slice none 0 0, .int .i64 0, .int .i64 0]) ?_ 0 _ rfl; (with_reducible repeat (first | refine qE ?_ _ | refine qI ?_ | refine qD ?_ _)); exact BK134.out) Try.underlying26 rfl (by kernel_rfl)) rfl ?_
    exact ⟨_, _, by first | rfl | (simp [errW_none, errW_some] <;> rfl) | (simp [*, errW_none, errW_some] <;> rfl), by (with_reducible repeat (first | apply Kd.qK | apply Kd.qJ | apply Kd.qN)); exact Kd.qP (Kd.R_far (p := ⟨gb134, 3, none⟩) (Kd.R_far (p := ⟨gb134, 2, none⟩) (Kd.R_far (p := ⟨gb134, 1, none⟩) (Kd.R_far (p := ⟨gb134, 0, none⟩) (Kd.qV HO138.out BK134.out (by decide)) (fun _ hk => hk.2) (.slice Ao15 t136.length co15)) (fun _ hk => hk.2) (.slice Ao17 t139.length co17)) (fun _ hk => hk.2) (.int .i64 t142)) (fun _ hk => hk.2) (.int .i64 t143)) (fun _ hk => trivial), by (with_reducible repeat (first | apply Kd.qK | apply Kd.qJ | apply Kd.qN)); exact Kd.qP (Kd.R_far (p := ⟨gb134, 3, none⟩) (Kd.R_far (p := ⟨gb134, 2, none⟩) (Kd.R_far (p := ⟨gb134, 1, none⟩) (Kd.R_far (p := ⟨gb134, 0, none⟩) (Kd.qV HO141.out BK134.out (by decide)) (fun _ hk => hk.2) (.slice Ao15 t136.length co15)) (fun _ hk => hk.2) (.slice Ao17 t139.length co17)) (fun _ hk => hk.2) (.int .i64 t142)) (fun _ hk => hk.2) (.int .i64 t143)) (fun _ hk => trivial), by repeat (first | (with_reducible first | exact HB.out | apply qH | apply qA | apply qG | refine qF ?_ GE133.out | refine qF ?_ GE134.out | refine qF ?_ GE135.out) | exact HB.out)⟩
  · rw [if_neg c4] at H
    have c4b0 : (a0_3 == 0) = false := beq_eq_false_iff_ne.mpr c4
    have c4b1 : (a0_3 != 0) = true := bne_iff_ne.mpr c4
    have HC18 := Aside0.mk H
    clear H
    go_enter Try.func43, Try.ntmps43
    go_upto_region 4 with (first | ((with_reducible refine qX (N := 3) rfl ?_); refine qW ?hg (N := 3) ?hd (cs := #[.slice A0_0 l0_0.length c0_0, .slice A0_1 l0_1.length c0_1, .int .i64 a0_2, .int .i64 a0_3]) (t := 26) ?hr ?_; (case hd => rfl); (case hg => rfl); (case hr => first | (go_simp; done) | (go_simp; rfl)); intro gb133 hg w19 hbox hb; have n0_ := Aside0.mk (qO (by repeat (first | (with_reducible first | exact HB.out | apply qH | apply qA | apply qG) | exact HB.out)) hb); have n1_ := Aside0.mk (hbox); have n2_ := Aside0.mk ((by rw [hg]; exact (qM (by repeat (first | (with_reducible first | exact HB.out | apply qH | apply qA | apply qG) | exact HB.out))) : w.heap.size ≤ gb133)); have n3_ := Aside0.mk ((by rw [hg]; exact (qM (by repeat (first | (with_reducible first | exact HB.out | apply qH | apply qA | apply qG) | exact HB.out))) : w.heap.size ≤ gb133)); clear HB; have HB := n0_; have BK133 := n1_; have GW133 := n2_; have GE133 := n3_; clear n0_ n1_ n2_ n3_; clear hb hbox hg) | ((with_reducible refine qX (N := 6) rfl ?_); refine qW ?hg (N := 6) ?hd (cs := #[.slice none 0 0, .slice none 0 0, .int .i64 0, .int .i64 0]) (t := 26) ?hr ?_; (case hd => rfl); (case hg => rfl); (case hr => first | (go_simp; done) | (go_simp; rfl)); intro gb134 hg w20 hbox hb; have n0_ := Aside0.mk (qL (g := gb133) (o := .cells #[.slice A0_0 l0_0.length c0_0, .slice A0_1 l0_1.length c0_1, .int .i64 a0_2, .int .i64 a0_3] 26 (0, 0)) (by (with_reducible repeat (first | refine qE ?_ _ | refine qI ?_ | refine qD ?_ _)); exact BK133.out) hb); have n1_ := Aside0.mk (qO (by repeat (first | (with_reducible first | exact HB.out | apply qH | apply qA | apply qG | refine qF ?_ GE133.out) | exact HB.out)) hb); have n2_ := Aside0.mk (hbox); have n3_ := Aside0.mk ((by rw [hg]; exact (qM (by repeat (first | (with_reducible first | exact HB.out | apply qH | apply qA | apply qG | refine qF ?_ GE133.out) | exact HB.out))) : w.heap.size ≤ gb134)); have n4_ := Aside0.mk ((by rw [hg]; exact (qM (by repeat (first | (with_reducible first | exact HB.out | apply qH | apply qA | apply qG | refine qF ?_ GE133.out) | exact HB.out))) : w.heap.size ≤ gb134)); have n5_ := Aside0.mk ((by rw [hg]; exact Nat.ne_of_lt (zB (g := gb133) (o := .cells #[.slice A0_0 l0_0.length c0_0, .slice A0_1 l0_1.length c0_1, .int .i64 a0_2, .int .i64 a0_3] 26 (0, 0)) (by (with_reducible repeat (first | refine qE ?_ _ | refine qI ?_ | refine qD ?_ _)); exact BK133.out)) : gb133 ≠ gb134)); have n6_ := Aside0.mk ((by rw [hg]; exact Nat.ne_of_gt (zB (g := gb133) (o := .cells #[.slice A0_0 l0_0.length c0_0, .slice A0_1 l0_1.length c0_1, .int .i64 a0_2, .int .i64 a0_3] 26 (0, 0)) (by (with_reducible repeat (first | refine qE ?_ _ | refine qI ?_ | refine qD ?_ _)); exact BK133.out)) : gb134 ≠ gb133)); clear BK133; clear HB; have BK133 := n0_; have HB := n1_; have BK134 := n2_; have GW134 := n3_; have GE134 := n4_; have NB133_134 := n5_; have NB134_133 := n6_; clear n0_ n1_ n2_ n3_ n4_ n5_ n6_; clear hb hbox hg) | ((with_reducible refine qX (N := 8) rfl ?_); refine qW ?hg (N := 8) ?hd (cs := #[.int .i64 0, .string (⟨#[]⟩ : ByteArray)]) (t := 70) ?hr ?_; (case hd => rfl); (case hg => rfl); (case hr => first | (go_simp; done) | (go_simp; rfl)); intro gb135 hg w21 hbox hb; have n0_ := Aside0.mk (qL (g := gb133) (o := .cells #[.slice A0_0 l0_0.length c0_0, .slice A0_1 l0_1.length c0_1, .int .i64 a0_2, .int .i64 a0_3] 26 (0, 0)) (by (with_reducible repeat (first | refine qE ?_ _ | refine qI ?_ | refine qD ?_ _)); exact BK133.out) hb); have n1_ := Aside0.mk (qL (g := gb134) (o := .cells #[.slice none 0 0, .slice none 0 0, .int .i64 0, .int .i64 0] 26 (0, 0)) (by (with_reducible repeat (first | refine qE ?_ _ | refine qI ?_ | refine qD ?_ _)); exact BK134.out) hb); have n2_ := Aside0.mk (qO (by repeat (first | (with_reducible first | exact HB.out | apply qH | apply qA | apply qG | refine qF ?_ GE133.out | refine qF ?_ GE134.out) | exact HB.out)) hb); have n3_ := Aside0.mk (hbox); have n4_ := Aside0.mk ((by rw [hg]; exact (qM (by repeat (first | (with_reducible first | exact HB.out | apply qH | apply qA | apply qG | refine qF ?_ GE133.out | refine qF ?_ GE134.out) | exact HB.out))) : w.heap.size ≤ gb135)); have n5_ := Aside0.mk ((by rw [hg]; exact (qM (by repeat (first | (with_reducible first | exact HB.out | apply qH | apply qA | apply qG | refine qF ?_ GE133.out | refine qF ?_ GE134.out) | exact HB.out))) : w.heap.size ≤ gb135)); have n6_ := Aside0.mk ((by rw [hg]; exact Nat.ne_of_lt (zB (g := gb133) (o := .cells #[.slice A0_0 l0_0.length c0_0, .slice A0_1 l0_1.length c0_1, .int .i64 a0_2, .int .i64 a0_3] 26 (0, 0)) (by (with_reducible repeat (first | refine qE ?_ _ | refine qI ?_ | refine qD ?_ _)); exact BK133.out)) : gb133 ≠ gb135)); have n7_ := Aside0.mk ((by rw [hg]; exact Nat.ne_of_gt (zB (g := gb133) (o := .cells #[.slice A0_0 l0_0.length c0_0, .slice A0_1 l0_1.length c0_1, .int .i64 a0_2, .int .i64 a0_3] 26 (0, 0)) (by (with_reducible repeat (first | refine qE ?_ _ | refine qI ?_ | refine qD ?_ _)); exact BK133.out)) : gb135 ≠ gb133)); have n8_ := Aside0.mk ((by rw [hg]; exact Nat.ne_of_lt (zB (g := gb134) (o := .cells #[.slice none 0 0, .slice none 0 0, .int .i64 0, .int .i64 0] 26 (0, 0)) (by (with_reducible repeat (first | refine qE ?_ _ | refine qI ?_ | refine qD ?_ _)); exact BK134.out)) : gb134 ≠ gb135)); have n9_ := Aside0.mk ((by rw [hg]; exact Nat.ne_of_gt (zB (g := gb134) (o := .cells #[.slice none 0 0, .slice none 0 0, .int .i64 0, .int .i64 0] 26 (0, 0)) (by (with_reducible repeat (first | refine qE ?_ _ | refine qI ?_ | refine qD ?_ _)); exact BK134.out)) : gb135 ≠ gb134)); clear BK133; clear BK134; clear HB; have BK133 := n0_; have BK134 := n1_; have HB := n2_; have BK135 := n3_; have GW135 := n4_; have GE135 := n5_; have NB133_135 := n6_; have NB135_133 := n7_; have NB134_135 := n8_; have NB135_134 := n9_; clear n0_ n1_ n2_ n3_ n4_ n5_ n6_ n7_ n8_ n9_; clear hb hbox hg; have hnb22 := NB135_133.out; have hnc22 := NB133_135.out; have hnb23 := NB135_134.out; have hnc23 := NB134_135.out; have hcz24_0 : w21.cell? ⟨gb135, 0, none⟩ = some (.int .i64 0) := (qC BK135.out 0).trans rfl; have hcz24_1 : w21.cell? ⟨gb135, 1, none⟩ = some (.string (⟨#[]⟩ : ByteArray)) := (qC BK135.out 1).trans rfl; have hfz24_0 := qB BK135.out 0; have hfz24_1 := qB BK135.out 1; have hnb25 := NB133_134.out; have hnc25 := NB134_133.out; have hcz26_0 : w21.cell? ⟨gb133, 0, none⟩ = some (.slice A0_0 l0_0.length c0_0) := (qC BK133.out 0).trans rfl; have hcz26_1 : w21.cell? ⟨gb133, 1, none⟩ = some (.slice A0_1 l0_1.length c0_1) := (qC BK133.out 1).trans rfl; have hcz26_2 : w21.cell? ⟨gb133, 2, none⟩ = some (.int .i64 a0_2) := (qC BK133.out 2).trans rfl; have hcz26_3 : w21.cell? ⟨gb133, 3, none⟩ = some (.int .i64 a0_3) := (qC BK133.out 3).trans rfl; have hfz26_0 := qB BK133.out 0; have hfz26_1 := qB BK133.out 1; have hfz26_2 := qB BK133.out 2; have hfz26_3 := qB BK133.out 3))
    (try simp only [Act.put, List.setIfInBounds_toArray, List.set_cons_zero, List.set_cons_succ])
    go_cut [31] (fun v31 wc => ∃ (kq : Nat) (x31_17 : Bool), v31 = .bool x31_17 ∧ Aside0 (spec_l7Write.j0 kq x31_17 l0_0 l0_1 a0_2 a0_3 a1 a2 = some (r1, r2, r3, r4, r5)) ∧ Aside0 (kq ≤ k) ∧ Aside0 (wc.heap[gb133]? = some (.cells #[(.slice A0_0 l0_0.length c0_0), (.slice A0_1 l0_1.length c0_1), .int .i64 a0_2, .int .i64 a0_3] 26 (0, 0))) ∧ Aside0 (wc.heap[gb134]? = some (.cells #[(.slice none 0 0), (.slice none 0 0), .int .i64 0, .int .i64 0] 26 (0, 0))) ∧ Aside0 (wc.heap[gb135]? = some (.cells #[.int .i64 a1, .string a2] 70 (0, 0))) ∧ Aside0 (Below w.heap.size w wc))
    case first =>
      have H := HC18.out
      clear HC18
      replace H := Option.bind_eq_some_iff.mp H
      obtain ⟨t144, A270, H⟩ := H
      replace H : (if t144 = true then (if a0_2 = 0 then (spec_l7Write.j0 k true l0_0 l0_1 a0_2 a0_3 a1 a2) else (spec_l7Write.j0 k (decide ((l0_1.length : Int) ≥ 100)) l0_0 l0_1 a0_2 a0_3 a1 a2)) else (spec_l7Write.j0 k true l0_0 l0_1 a0_2 a0_3 a1 a2)) = some (r1, r2, r3, r4, r5) := H
      have A27 := Aside0.mk A270
      clear A270
      by_cases c28 : t144 = true
      · subst c28
        have H1 : (if a0_2 = 0 then (spec_l7Write.j0 k true l0_0 l0_1 a0_2 a0_3 a1 a2) else (spec_l7Write.j0 k (decide ((l0_1.length : Int) ≥ 100)) l0_0 l0_1 a0_2 a0_3 a1 a2)) = some (r1, r2, r3, r4, r5) := by rw [if_pos rfl] at H; exact H
        clear H
        have H := H1
        clear H1
        by_cases c29 : a0_2 = 0
        · rw [if_pos c29] at H
          have c29b0 : (a0_2 == 0) = true := beq_iff_eq.mpr c29
          have c29b1 : (a0_2 != 0) = false := bne_eq_false_iff_eq.mpr c29
          clear c29
          (first | rw [c29b0] | (simp only [i64_w, i32_w]; rw [c29b0]) | skip)
          have H' := Aside0.mk H
          clear H
          have hnb30 := NB135_133.out
          have hnc30 := NB133_135.out
          have hnb31 := NB135_134.out
          have hnc31 := NB134_135.out
          have hcz32_0 : w21.cell? ⟨gb135, 0, none⟩ = some (.int .i64 0) := (qC BK135.out 0).trans rfl
          have hcz32_1 : w21.cell? ⟨gb135, 1, none⟩ = some (.string (⟨#[]⟩ : ByteArray)) := (qC BK135.out 1).trans rfl
          have hfz32_0 := qB BK135.out 0
          have hfz32_1 := qB BK135.out 1
          go_wp2_with (first | ((with_reducible refine qT (f := 67) rfl ?_); refine zD (some 19) rfl rfl Try.func67 (by kernel_rfl) rfl #[.agg #[.int .i64 a1, .string a2]] rfl (by (try simp only [List.map_toArray, List.map_cons, List.map_nil]); first | done | rfl | (simp only [List.length_drop, List.length_take]; rfl)) ?_; (with_reducible refine (spec_l7Wait.calls a1 a2 true _ A27.out).mono ?_); rintro e w33 ⟨rfl, hb⟩; refine ⟨_, rfl, ?_⟩; have n0_ := Aside0.mk (qL (g := gb133) (o := .cells #[.slice A0_0 l0_0.length c0_0, .slice A0_1 l0_1.length c0_1, .int .i64 a0_2, .int .i64 a0_3] 26 (0, 0)) (by (with_reducible repeat (first | refine qE ?_ _ | refine qI ?_ | refine qD ?_ _)); refine qQ ?_ NB133_135.out _; (with_reducible repeat (first | refine qE ?_ _ | refine qI ?_ | refine qD ?_ _)); refine qQ ?_ NB133_135.out _; (with_reducible repeat (first | refine qE ?_ _ | refine qI ?_ | refine qD ?_ _)); exact BK133.out) hb); have n1_ := Aside0.mk (qL (g := gb134) (o := .cells #[.slice none 0 0, .slice none 0 0, .int .i64 0, .int .i64 0] 26 (0, 0)) (by (with_reducible repeat (first | refine qE ?_ _ | refine qI ?_ | refine qD ?_ _)); refine qQ ?_ NB134_135.out _; (with_reducible repeat (first | refine qE ?_ _ | refine qI ?_ | refine qD ?_ _)); refine qQ ?_ NB134_135.out _; (with_reducible repeat (first | refine qE ?_ _ | refine qI ?_ | refine qD ?_ _)); exact BK134.out) hb); have n2_ := Aside0.mk (qL (g := gb135) (o := .cells #[.int .i64 a1, .string a2] 70 (0, 0)) (by (with_reducible repeat (first | refine qE ?_ _ | refine qI ?_ | refine qD ?_ _)); refine qU (cs := #[.int .i64 a1, .string (⟨#[]⟩ : ByteArray)]) ?_ 1 _ rfl; (with_reducible repeat (first | refine qE ?_ _ | refine qI ?_ | refine qD ?_ _)); refine qU (cs := #[.int .i64 0, .string (⟨#[]⟩ : ByteArray)]) ?_ 0 _ rfl; (with_reducible repeat (first | refine qE ?_ _ | refine qI ?_ | refine qD ?_ _)); exact BK135.out) hb); have n3_ := Aside0.mk (qO (by repeat (first | (with_reducible first | exact HB.out | apply qH | apply qA | apply qG | refine qF ?_ GE133.out | refine qF ?_ GE134.out | refine qF ?_ GE135.out) | exact HB.out)) hb); clear BK133; clear BK134; clear BK135; clear HB; have BK133 := n0_; have BK134 := n1_; have BK135 := n2_; have HB := n3_; clear n0_ n1_ n2_ n3_; (try clear hb); (try clear hb2); (try clear hk); (try clear hi); have hnb34 := NB133_134.out; have hnc34 := NB134_133.out; have hcz35_0 : w33.cell? ⟨gb133, 0, none⟩ = some (.slice A0_0 l0_0.length c0_0) := (qC BK133.out 0).trans rfl; have hcz35_1 : w33.cell? ⟨gb133, 1, none⟩ = some (.slice A0_1 l0_1.length c0_1) := (qC BK133.out 1).trans rfl; have hcz35_2 : w33.cell? ⟨gb133, 2, none⟩ = some (.int .i64 a0_2) := (qC BK133.out 2).trans rfl; have hcz35_3 : w33.cell? ⟨gb133, 3, none⟩ = some (.int .i64 a0_3) := (qC BK133.out 3).trans rfl; have hfz35_0 := qB BK133.out 0; have hfz35_1 := qB BK133.out 1; have hfz35_2 := qB BK133.out 2; have hfz35_3 := qB BK133.out 3))
          go_meet
          case rel => exact ⟨_, (true), (by first | rfl | (simp; done) | (simp [*]; done)), H', ⟨by first | omega | exact Nat.le_refl _⟩, ⟨by (with_reducible repeat (first | refine qE ?_ _ | refine qI ?_ | refine qD ?_ _)); exact BK133.out⟩, ⟨by (with_reducible repeat (first | refine qE ?_ _ | refine qI ?_ | refine qD ?_ _)); exact BK134.out⟩, ⟨by (with_reducible repeat (first | refine qE ?_ _ | refine qI ?_ | refine qD ?_ _)); exact BK135.out⟩, ⟨by repeat (first | (with_reducible first | exact HB.out | apply qH | apply qA | apply qG | refine qF ?_ GE133.out | refine qF ?_ GE134.out | refine qF ?_ GE135.out) | exact HB.out)⟩⟩
        · rw [if_neg c29] at H
          have c29b0 : (a0_2 == 0) = false := beq_eq_false_iff_ne.mpr c29
          have c29b1 : (a0_2 != 0) = true := bne_iff_ne.mpr c29
          (first | rw [c29b0] | (simp only [i64_w, i32_w]; rw [c29b0]) | skip)
          have H' := Aside0.mk H
          clear H
          have hnb36 := NB135_133.out
          have hnc36 := NB133_135.out
          have hnb37 := NB135_134.out
          have hnc37 := NB134_135.out
          have hcz38_0 : w21.cell? ⟨gb135, 0, none⟩ = some (.int .i64 0) := (qC BK135.out 0).trans rfl
          have hcz38_1 : w21.cell? ⟨gb135, 1, none⟩ = some (.string (⟨#[]⟩ : ByteArray)) := (qC BK135.out 1).trans rfl
          have hfz38_0 := qB BK135.out 0
          have hfz38_1 := qB BK135.out 1
          go_wp2_with (first | ((with_reducible refine qT (f := 67) rfl ?_); refine zD (some 19) rfl rfl Try.func67 (by kernel_rfl) rfl #[.agg #[.int .i64 a1, .string a2]] rfl (by (try simp only [List.map_toArray, List.map_cons, List.map_nil]); first | done | rfl | (simp only [List.length_drop, List.length_take]; rfl)) ?_; (with_reducible refine (spec_l7Wait.calls a1 a2 true _ A27.out).mono ?_); rintro e w39 ⟨rfl, hb⟩; refine ⟨_, rfl, ?_⟩; have n0_ := Aside0.mk (qL (g := gb133) (o := .cells #[.slice A0_0 l0_0.length c0_0, .slice A0_1 l0_1.length c0_1, .int .i64 a0_2, .int .i64 a0_3] 26 (0, 0)) (by (with_reducible repeat (first | refine qE ?_ _ | refine qI ?_ | refine qD ?_ _)); refine qQ ?_ NB133_135.out _; (with_reducible repeat (first | refine qE ?_ _ | refine qI ?_ | refine qD ?_ _)); refine qQ ?_ NB133_135.out _; (with_reducible repeat (first | refine qE ?_ _ | refine qI ?_ | refine qD ?_ _)); exact BK133.out) hb); have n1_ := Aside0.mk (qL (g := gb134) (o := .cells #[.slice none 0 0, .slice none 0 0, .int .i64 0, .int .i64 0] 26 (0, 0)) (by (with_reducible repeat (first | refine qE ?_ _ | refine qI ?_ | refine qD ?_ _)); refine qQ ?_ NB134_135.out _; (with_reducible repeat (first | refine qE ?_ _ | refine qI ?_ | refine qD ?_ _)); refine qQ ?_ NB134_135.out _; (with_reducible repeat (first | refine qE ?_ _ | refine qI ?_ | refine qD ?_ _)); exact BK134.out) hb); have n2_ := Aside0.mk (qL (g := gb135) (o := .cells #[.int .i64 a1, .string a2] 70 (0, 0)) (by (with_reducible repeat (first | refine qE ?_ _ | refine qI ?_ | refine qD ?_ _)); refine qU (cs := #[.int .i64 a1, .string (⟨#[]⟩ : ByteArray)]) ?_ 1 _ rfl; (with_reducible repeat (first | refine qE ?_ _ | refine qI ?_ | refine qD ?_ _)); refine qU (cs := #[.int .i64 0, .string (⟨#[]⟩ : ByteArray)]) ?_ 0 _ rfl; (with_reducible repeat (first | refine qE ?_ _ | refine qI ?_ | refine qD ?_ _)); exact BK135.out) hb); have n3_ := Aside0.mk (qO (by repeat (first | (with_reducible first | exact HB.out | apply qH | apply qA | apply qG | refine qF ?_ GE133.out | refine qF ?_ GE134.out | refine qF ?_ GE135.out) | exact HB.out)) hb); clear BK133; clear BK134; clear BK135; clear HB; have BK133 := n0_; have BK134 := n1_; have BK135 := n2_; have HB := n3_; clear n0_ n1_ n2_ n3_; (try clear hb); (try clear hb2); (try clear hk); (try clear hi); have hnb40 := NB133_134.out; have hnc40 := NB134_133.out; have hcz41_0 : w39.cell? ⟨gb133, 0, none⟩ = some (.slice A0_0 l0_0.length c0_0) := (qC BK133.out 0).trans rfl; have hcz41_1 : w39.cell? ⟨gb133, 1, none⟩ = some (.slice A0_1 l0_1.length c0_1) := (qC BK133.out 1).trans rfl; have hcz41_2 : w39.cell? ⟨gb133, 2, none⟩ = some (.int .i64 a0_2) := (qC BK133.out 2).trans rfl; have hcz41_3 : w39.cell? ⟨gb133, 3, none⟩ = some (.int .i64 a0_3) := (qC BK133.out 3).trans rfl; have hfz41_0 := qB BK133.out 0; have hfz41_1 := qB BK133.out 1; have hfz41_2 := qB BK133.out 2; have hfz41_3 := qB BK133.out 3))
          go_meet
          case rel => exact ⟨_, (decide ((l0_1.length : Int) ≥ 100)), (by first | rfl | (simp; done) | (simp [*]; done)), H', ⟨by first | omega | exact Nat.le_refl _⟩, ⟨by (with_reducible repeat (first | refine qE ?_ _ | refine qI ?_ | refine qD ?_ _)); exact BK133.out⟩, ⟨by (with_reducible repeat (first | refine qE ?_ _ | refine qI ?_ | refine qD ?_ _)); exact BK134.out⟩, ⟨by (with_reducible repeat (first | refine qE ?_ _ | refine qI ?_ | refine qD ?_ _)); exact BK135.out⟩, ⟨by repeat (first | (with_reducible first | exact HB.out | apply qH | apply qA | apply qG | refine qF ?_ GE133.out | refine qF ?_ GE134.out | refine qF ?_ GE135.out) | exact HB.out)⟩⟩
      · replace c28 := Bool.eq_false_iff.mpr c28
        subst c28
        have H1 : (spec_l7Write.j0 k true l0_0 l0_1 a0_2 a0_3 a1 a2) = some (r1, r2, r3, r4, r5) := by rw [if_neg (show ¬ (false = true) by decide)] at H; exact H
        clear H
        have H := H1
        clear H1
        have H' := Aside0.mk H
        clear H
        have hnb42 := NB135_133.out
        have hnc42 := NB133_135.out
        have hnb43 := NB135_134.out
        have hnc43 := NB134_135.out
        have hcz44_0 : w21.cell? ⟨gb135, 0, none⟩ = some (.int .i64 0) := (qC BK135.out 0).trans rfl
        have hcz44_1 : w21.cell? ⟨gb135, 1, none⟩ = some (.string (⟨#[]⟩ : ByteArray)) := (qC BK135.out 1).trans rfl
        have hfz44_0 := qB BK135.out 0
        have hfz44_1 := qB BK135.out 1
        go_wp2_with (first | ((with_reducible refine qT (f := 67) rfl ?_); refine zD (some 19) rfl rfl Try.func67 (by kernel_rfl) rfl #[.agg #[.int .i64 a1, .string a2]] rfl (by (try simp only [List.map_toArray, List.map_cons, List.map_nil]); first | done | rfl | (simp only [List.length_drop, List.length_take]; rfl)) ?_; (with_reducible refine (spec_l7Wait.calls a1 a2 false _ A27.out).mono ?_); rintro e w45 ⟨rfl, hb⟩; refine ⟨_, rfl, ?_⟩; have n0_ := Aside0.mk (qL (g := gb133) (o := .cells #[.slice A0_0 l0_0.length c0_0, .slice A0_1 l0_1.length c0_1, .int .i64 a0_2, .int .i64 a0_3] 26 (0, 0)) (by (with_reducible repeat (first | refine qE ?_ _ | refine qI ?_ | refine qD ?_ _)); refine qQ ?_ NB133_135.out _; (with_reducible repeat (first | refine qE ?_ _ | refine qI ?_ | refine qD ?_ _)); refine qQ ?_ NB133_135.out _; (with_reducible repeat (first | refine qE ?_ _ | refine qI ?_ | refine qD ?_ _)); exact BK133.out) hb); have n1_ := Aside0.mk (qL (g := gb134) (o := .cells #[.slice none 0 0, .slice none 0 0, .int .i64 0, .int .i64 0] 26 (0, 0)) (by (with_reducible repeat (first | refine qE ?_ _ | refine qI ?_ | refine qD ?_ _)); refine qQ ?_ NB134_135.out _; (with_reducible repeat (first | refine qE ?_ _ | refine qI ?_ | refine qD ?_ _)); refine qQ ?_ NB134_135.out _; (with_reducible repeat (first | refine qE ?_ _ | refine qI ?_ | refine qD ?_ _)); exact BK134.out) hb); have n2_ := Aside0.mk (qL (g := gb135) (o := .cells #[.int .i64 a1, .string a2] 70 (0, 0)) (by (with_reducible repeat (first | refine qE ?_ _ | refine qI ?_ | refine qD ?_ _)); refine qU (cs := #[.int .i64 a1, .string (⟨#[]⟩ : ByteArray)]) ?_ 1 _ rfl; (with_reducible repeat (first | refine qE ?_ _ | refine qI ?_ | refine qD ?_ _)); refine qU (cs := #[.int .i64 0, .string (⟨#[]⟩ : ByteArray)]) ?_ 0 _ rfl; (with_reducible repeat (first | refine qE ?_ _ | refine qI ?_ | refine qD ?_ _)); exact BK135.out) hb); have n3_ := Aside0.mk (qO (by repeat (first | (with_reducible first | exact HB.out | apply qH | apply qA | apply qG | refine qF ?_ GE133.out | refine qF ?_ GE134.out | refine qF ?_ GE135.out) | exact HB.out)) hb); clear BK133; clear BK134; clear BK135; clear HB; have BK133 := n0_; have BK134 := n1_; have BK135 := n2_; have HB := n3_; clear n0_ n1_ n2_ n3_; (try clear hb); (try clear hb2); (try clear hk); (try clear hi)))
        go_meet
        case rel => exact ⟨_, (true), (by first | rfl | (simp; done) | (simp [*]; done)), H', ⟨by first | omega | exact Nat.le_refl _⟩, ⟨by (with_reducible repeat (first | refine qE ?_ _ | refine qI ?_ | refine qD ?_ _)); exact BK133.out⟩, ⟨by (with_reducible repeat (first | refine qE ?_ _ | refine qI ?_ | refine qD ?_ _)); exact BK134.out⟩, ⟨by (with_reducible repeat (first | refine qE ?_ _ | refine qI ?_ | refine qD ?_ _)); exact BK135.out⟩, ⟨by repeat (first | (with_reducible first | exact HB.out | apply qH | apply qA | apply qG | refine qF ?_ GE133.out | refine qF ?_ GE134.out | refine qF ?_ GE135.out) | exact HB.out)⟩⟩
    case rest =>
      clear HC18
      try clear c1
      try clear c2
      try clear p2
      try clear c3
      try clear c4
      try clear c4b0
      try clear c4b1
      try clear c6
      try clear c9
      try clear c10
      try clear c12
      try clear c22
      try clear c23
      try clear c25
      try clear c28
      try clear c29
      try clear c29b0
      try clear c29b1
      try clear c30
      try clear c31
      try clear c34
      try clear c36
      try clear c37
      try clear c38
      try clear c40
      try clear c42
      try clear c43
      try clear hcz11_0
      try clear hcz11_1
      try clear hcz13_0
      try clear hcz13_1
      try clear hcz13_2
      try clear hcz13_3
      try clear hcz16_0
      try clear hcz16_1
      try clear hcz16_2
      try clear hcz16_3
      try clear hcz24_0
      try clear hcz24_1
      try clear hcz26_0
      try clear hcz26_1
      try clear hcz26_2
      try clear hcz26_3
      try clear hcz32_0
      try clear hcz32_1
      try clear hcz35_0
      try clear hcz35_1
      try clear hcz35_2
      try clear hcz35_3
      try clear hcz38_0
      try clear hcz38_1
      try clear hcz41_0
      try clear hcz41_1
      try clear hcz41_2
      try clear hcz41_3
      try clear hcz44_0
      try clear hcz44_1
      try clear hfz11_0
      try clear hfz11_1
      try clear hfz13_0
      try clear hfz13_1
      try clear hfz13_2
      try clear hfz13_3
      try clear hfz16_0
      try clear hfz16_1
      try clear hfz16_2
      try clear hfz16_3
      try clear hfz24_0
      try clear hfz24_1
      try clear hfz26_0
      try clear hfz26_1
      try clear hfz26_2
      try clear hfz26_3
      try clear hfz32_0
      try clear hfz32_1
      try clear hfz35_0
      try clear hfz35_1
      try clear hfz35_2
      try clear hfz35_3
      try clear hfz38_0
      try clear hfz38_1
      try clear hfz41_0
      try clear hfz41_1
      try clear hfz41_2
      try clear hfz41_3
      try clear hfz44_0
      try clear hfz44_1
      obtain ⟨kq, x31_17, rfl, HA, HJ17, BK133, BK134, BK135, HB⟩ := hcut
      cases kq with
      | zero => exact absurd HA.out (by simp [spec_l7Write.j0])
      | succ kj17 =>
        have H := HA.out
        clear HA
        simp only [spec_l7Write.j0] at H
        by_cases c46 : x31_17 = true
        · subst c46
          have H1 : ((spec_l7Copy.f l0_0 l0_1 a0_2 a0_3).bind fun bt145 => (some (bt145.1, bt145.2.1, bt145.2.2.1, bt145.2.2.2, false))) = some (r1, r2, r3, r4, r5) := by rw [if_pos rfl] at H; exact H
          clear H
          have H := H1
          clear H1
          replace H := Option.bind_eq_some_iff.mp H
          obtain ⟨⟨t145, t148, t151, t152⟩, A470, H⟩ := H
          replace H : (some (t145, t148, t151, t152, false)) = some (r1, r2, r3, r4, r5) := H
          have A47 := Aside0.mk A470
          clear A470
          simp only [Option.some.injEq, Prod.mk.injEq] at H
          obtain ⟨rfl, rfl, rfl, rfl, rfl⟩ := H
          have hnb48 := NB133_134.out
          have hnc48 := NB134_133.out
          have hnb49 := NB133_135.out
          have hnc49 := NB135_133.out
          have hcz50_0 : wc.cell? ⟨gb133, 0, none⟩ = some (.slice A0_0 l0_0.length c0_0) := (qC BK133.out 0).trans rfl
          have hcz50_1 : wc.cell? ⟨gb133, 1, none⟩ = some (.slice A0_1 l0_1.length c0_1) := (qC BK133.out 1).trans rfl
          have hcz50_2 : wc.cell? ⟨gb133, 2, none⟩ = some (.int .i64 a0_2) := (qC BK133.out 2).trans rfl
          have hcz50_3 : wc.cell? ⟨gb133, 3, none⟩ = some (.int .i64 a0_3) := (qC BK133.out 3).trans rfl
          have hfz50_0 := qB BK133.out 0
          have hfz50_1 := qB BK133.out 1
          have hfz50_2 := qB BK133.out 2
          have hfz50_3 := qB BK133.out 3
          go_wp2_with (first | ((with_reducible refine qT (f := 38) rfl ?_); refine zD (some 33) rfl rfl Try.func38 (by kernel_rfl) rfl #[.agg #[.slice A0_0 l0_0.length c0_0, .slice A0_1 l0_1.length c0_1, .int .i64 a0_2, .int .i64 a0_3]] rfl (by (try simp only [List.map_toArray, List.map_cons, List.map_nil]); first | done | rfl | (simp only [List.length_drop, List.length_take]; rfl)) ?_; (with_reducible refine (spec_l7Copy.calls _ _ l0_0 _ _ l0_1 a0_2 a0_3 t145 t148 t151 t152 _ ?side1 ?side2 ?side3 ?side4 A47.out).mono ?_); (case side1 => repeat (first | exact (Kd.qY HR0_0.out HB.out) | (with_reducible refine Kd.qZ ?_ _) | (with_reducible refine Kd.zA ?_ _) | (with_reducible refine Kd.zC ?_))); (case side2 => exact HC0_0.out); (case side3 => repeat (first | exact (Kd.qY HR0_1.out HB.out) | (with_reducible refine Kd.qZ ?_ _) | (with_reducible refine Kd.zA ?_ _) | (with_reducible refine Kd.zC ?_))); (case side4 => exact HC0_1.out); rintro e w51 ⟨v146, v149, rfl, ho0, ho1, hb⟩; refine ⟨_, rfl, ?_⟩; have n0_ := Aside0.mk (Kd.zG ho0 (qM (by repeat (first | (with_reducible first | exact HB.out | apply qH | apply qA | apply qG | refine qF ?_ GE133.out | refine qF ?_ GE134.out | refine qF ?_ GE135.out) | exact HB.out)))); have n1_ := Aside0.mk (Kd.zG (Kd.R_newB ho1 (g := gb135) (o := .cells #[.int .i64 a1, .string a2] 70 (0, 0)) (by (with_reducible repeat (first | refine qE ?_ _ | refine qI ?_ | refine qD ?_ _)); exact BK135.out)) (qM (by repeat (first | (with_reducible first | exact HB.out | apply qH | apply qA | apply qG | refine qF ?_ GE133.out | refine qF ?_ GE134.out | refine qF ?_ GE135.out) | exact HB.out)))); have n2_ := Aside0.mk (qL (g := gb133) (o := .cells #[.slice A0_0 l0_0.length c0_0, .slice A0_1 l0_1.length c0_1, .int .i64 a0_2, .int .i64 a0_3] 26 (0, 0)) (by (with_reducible repeat (first | refine qE ?_ _ | refine qI ?_ | refine qD ?_ _)); exact BK133.out) hb); have n3_ := Aside0.mk (qL (g := gb134) (o := .cells #[.slice none 0 0, .slice none 0 0, .int .i64 0, .int .i64 0] 26 (0, 0)) (by (with_reducible repeat (first | refine qE ?_ _ | refine qI ?_ | refine qD ?_ _)); exact BK134.out) hb); have n4_ := Aside0.mk (qL (g := gb135) (o := .cells #[.int .i64 a1, .string a2] 70 (0, 0)) (by (with_reducible repeat (first | refine qE ?_ _ | refine qI ?_ | refine qD ?_ _)); exact BK135.out) hb); have n5_ := Aside0.mk (qO (by repeat (first | (with_reducible first | exact HB.out | apply qH | apply qA | apply qG | refine qF ?_ GE133.out | refine qF ?_ GE134.out | refine qF ?_ GE135.out) | exact HB.out)) hb); clear BK133; clear BK134; clear BK135; clear HB; have HO147 := n0_; have HO150 := n1_; have BK133 := n2_; have BK134 := n3_; have BK135 := n4_; have HB := n5_; clear n0_ n1_ n2_ n3_ n4_ n5_; (try clear hb); (try clear hb2); (try clear hk); (try clear hi); (try clear ho0); (try clear ho1); obtain ⟨Ao52, co52, eo52⟩ := Kd.zE HO147.out; subst eo52; have hnb53 := NB134_135.out; have hnc53 := NB135_134.out; have hcz54_0 : w51.cell? ⟨gb134, 0, none⟩ = some (.slice none 0 0) := (qC BK134.out 0).trans rfl; have hcz54_1 : w51.cell? ⟨gb134, 1, none⟩ = some (.slice none 0 0) := (qC BK134.out 1).trans rfl; have hcz54_2 : w51.cell? ⟨gb134, 2, none⟩ = some (.int .i64 0) := (qC BK134.out 2).trans rfl; have hcz54_3 : w51.cell? ⟨gb134, 3, none⟩ = some (.int .i64 0) := (qC BK134.out 3).trans rfl; have hfz54_0 := qB BK134.out 0; have hfz54_1 := qB BK134.out 1; have hfz54_2 := qB BK134.out 2; have hfz54_3 := qB BK134.out 3; obtain ⟨Ao55, co55, eo55⟩ := Kd.zE HO150.out; subst eo55))
          refine bodyPost_ret (xA rfl _ _ gb134 26 #[.slice Ao52 t145.length co52, .slice Ao55 t148.length co55, .int .i64 t151, .int .i64 t152] (0, 0) _ rfl (by (with_reducible repeat (first | refine qE ?_ _ | refine qI ?_ | refine qD ?_ _)); refine qU (cs := #[.slice Ao52 t145.length co52, .slice Ao55 t148.length co55, .int .i64 t151, .int .i64 0]) ?_ 3 _ rfl; (with_reducible repeat (first | refine qE ?_ _ | refine qI ?_ | refine qD ?_ _)); refine qU (cs := #[.slice Ao52 t145.length co52, .slice Ao55 t148.length co55, .int .i64 0, .int .i64 0]) ?_ 2 _ rfl; (with_reducible repeat (first | refine qE ?_ _ | refine qI ?_ | refine qD ?_ _)); refine qU (cs := #[.slice Ao52 t145.length co52, .slice none 0 0, .int .i64 0, .int .i64 0]) ?_ 1 _ rfl; (with_reducible repeat (first | refine qE ?_ _ | refine qI ?_ | refine qD ?_ _)); refine qU (cs := #[.slice none 0 0, .slice none 0 0, .int .i64 0, .int .i64 0]) ?_ 0 _ rfl; (with_reducible repeat (first | refine qE ?_ _ | refine qI ?_ | refine qD ?_ _)); exact BK134.out) Try.underlying26 rfl (by kernel_rfl)) rfl ?_
          exact ⟨_, _, by first | rfl | (simp [errW_none, errW_some] <;> rfl) | (simp [*, errW_none, errW_some] <;> rfl), by (with_reducible repeat (first | apply Kd.qK | apply Kd.qJ | apply Kd.qN)); exact Kd.qP (Kd.R_far (p := ⟨gb134, 3, none⟩) (Kd.R_far (p := ⟨gb134, 2, none⟩) (Kd.R_far (p := ⟨gb134, 1, none⟩) (Kd.R_far (p := ⟨gb134, 0, none⟩) (Kd.qV HO147.out BK134.out (by decide)) (fun _ hk => hk.2) (.slice Ao52 t145.length co52)) (fun _ hk => hk.2) (.slice Ao55 t148.length co55)) (fun _ hk => hk.2) (.int .i64 t151)) (fun _ hk => hk.2) (.int .i64 t152)) (fun _ hk => trivial), by (with_reducible repeat (first | apply Kd.qK | apply Kd.qJ | apply Kd.qN)); exact Kd.qP (Kd.R_far (p := ⟨gb134, 3, none⟩) (Kd.R_far (p := ⟨gb134, 2, none⟩) (Kd.R_far (p := ⟨gb134, 1, none⟩) (Kd.R_far (p := ⟨gb134, 0, none⟩) (Kd.qV HO150.out BK134.out (by decide)) (fun _ hk => hk.2) (.slice Ao52 t145.length co52)) (fun _ hk => hk.2) (.slice Ao55 t148.length co55)) (fun _ hk => hk.2) (.int .i64 t151)) (fun _ hk => hk.2) (.int .i64 t152)) (fun _ hk => trivial), by repeat (first | (with_reducible first | exact HB.out | apply qH | apply qA | apply qG | refine qF ?_ GE133.out | refine qF ?_ GE134.out | refine qF ?_ GE135.out) | exact HB.out)⟩
        · replace c46 := Bool.eq_false_iff.mpr c46
          subst c46
          have H1 : ((spec_l7Copy.f l0_0 l0_1 a0_2 a0_3).bind fun bt153 => (if bt153.2.1.length < 5864062014805 then ((spec_l7Less.f a0_3).bind fun t165 => ((spec_l7Less.f a0_2).bind fun t166 => (some (bt153.1, (bt153.2.1 ++ [(⟨a1, a2⟩ : S70)]), t166, t165, true)))) else (none))) = some (r1, r2, r3, r4, r5) := by rw [if_neg (show ¬ (false = true) by decide)] at H; exact H
          clear H
          have H := H1
          clear H1
          replace H := Option.bind_eq_some_iff.mp H
          obtain ⟨⟨t153, t156, t159, t160⟩, A560, H⟩ := H
          replace H : (if t156.length < 5864062014805 then ((spec_l7Less.f a0_3).bind fun t165 => ((spec_l7Less.f a0_2).bind fun t166 => (some (t153, (t156 ++ [(⟨a1, a2⟩ : S70)]), t166, t165, true)))) else (none)) = some (r1, r2, r3, r4, r5) := H
          have A56 := Aside0.mk A560
          clear A560
          by_cases c57 : t156.length < 5864062014805
          · rw [if_pos c57] at H
            have LMc57 := Aside0.mk c57
            clear c57
            obtain ⟨y162, hy162⟩ : ∃ y_ : List (S70), y_ = (t156 ++ [(⟨a1, a2⟩ : S70)]) := ⟨_, rfl⟩
            replace H : ((spec_l7Less.f a0_3).bind fun t165 => ((spec_l7Less.f a0_2).bind fun t166 => (some (t153, y162, t166, t165, true)))) = some (r1, r2, r3, r4, r5) := by first | (rw [hy162]; with_reducible exact H) | (have H2_ := (Option.bind_some _ _).symm.trans H; rw [hy162]; with_reducible exact H2_) | (have H2_ := (Option.bind_some _ _).symm.trans H; with_reducible exact H2_) | with_reducible exact H | (rw [hy162]; exact H) | exact H
            have Ny162 := Aside0.mk hy162
            clear hy162
            replace H := Option.bind_eq_some_iff.mp H
            obtain ⟨t165, A580, H⟩ := H
            replace H : ((spec_l7Less.f a0_2).bind fun t166 => (some (t153, y162, t166, t165, true))) = some (r1, r2, r3, r4, r5) := H
            have A58 := Aside0.mk A580
            clear A580
            replace H := Option.bind_eq_some_iff.mp H
            obtain ⟨t166, A590, H⟩ := H
            replace H : (some (t153, y162, t166, t165, true)) = some (r1, r2, r3, r4, r5) := H
            have A59 := Aside0.mk A590
            clear A590
            simp only [Option.some.injEq, Prod.mk.injEq] at H
            obtain ⟨rfl, rfl, rfl, rfl, rfl⟩ := H
            have hnb60 := NB133_134.out
            have hnc60 := NB134_133.out
            have hnb61 := NB133_135.out
            have hnc61 := NB135_133.out
            have hcz62_0 : wc.cell? ⟨gb133, 0, none⟩ = some (.slice A0_0 l0_0.length c0_0) := (qC BK133.out 0).trans rfl
            have hcz62_1 : wc.cell? ⟨gb133, 1, none⟩ = some (.slice A0_1 l0_1.length c0_1) := (qC BK133.out 1).trans rfl
            have hcz62_2 : wc.cell? ⟨gb133, 2, none⟩ = some (.int .i64 a0_2) := (qC BK133.out 2).trans rfl
            have hcz62_3 : wc.cell? ⟨gb133, 3, none⟩ = some (.int .i64 a0_3) := (qC BK133.out 3).trans rfl
            have hfz62_0 := qB BK133.out 0
            have hfz62_1 := qB BK133.out 1
            have hfz62_2 := qB BK133.out 2
            have hfz62_3 := qB BK133.out 3
            go_wp2_with (first | ((with_reducible refine qT (f := 38) rfl ?_); refine zD (some 35) rfl rfl Try.func38 (by kernel_rfl) rfl #[.agg #[.slice A0_0 l0_0.length c0_0, .slice A0_1 l0_1.length c0_1, .int .i64 a0_2, .int .i64 a0_3]] rfl (by (try simp only [List.map_toArray, List.map_cons, List.map_nil]); first | done | rfl | (simp only [List.length_drop, List.length_take]; rfl)) ?_; (with_reducible refine (spec_l7Copy.calls _ _ l0_0 _ _ l0_1 a0_2 a0_3 t153 t156 t159 t160 _ ?side1 ?side2 ?side3 ?side4 A56.out).mono ?_); (case side1 => repeat (first | exact (Kd.qY HR0_0.out HB.out) | (with_reducible refine Kd.qZ ?_ _) | (with_reducible refine Kd.zA ?_ _) | (with_reducible refine Kd.zC ?_))); (case side2 => exact HC0_0.out); (case side3 => repeat (first | exact (Kd.qY HR0_1.out HB.out) | (with_reducible refine Kd.qZ ?_ _) | (with_reducible refine Kd.zA ?_ _) | (with_reducible refine Kd.zC ?_))); (case side4 => exact HC0_1.out); rintro e w63 ⟨v154, v157, rfl, ho0, ho1, hb⟩; refine ⟨_, rfl, ?_⟩; have n0_ := Aside0.mk (Kd.zG ho0 (qM (by repeat (first | (with_reducible first | exact HB.out | apply qH | apply qA | apply qG | refine qF ?_ GE133.out | refine qF ?_ GE134.out | refine qF ?_ GE135.out) | exact HB.out)))); have n1_ := Aside0.mk (Kd.zG (Kd.R_newB ho1 (g := gb135) (o := .cells #[.int .i64 a1, .string a2] 70 (0, 0)) (by (with_reducible repeat (first | refine qE ?_ _ | refine qI ?_ | refine qD ?_ _)); exact BK135.out)) (qM (by repeat (first | (with_reducible first | exact HB.out | apply qH | apply qA | apply qG | refine qF ?_ GE133.out | refine qF ?_ GE134.out | refine qF ?_ GE135.out) | exact HB.out)))); have n2_ := Aside0.mk (qL (g := gb133) (o := .cells #[.slice A0_0 l0_0.length c0_0, .slice A0_1 l0_1.length c0_1, .int .i64 a0_2, .int .i64 a0_3] 26 (0, 0)) (by (with_reducible repeat (first | refine qE ?_ _ | refine qI ?_ | refine qD ?_ _)); exact BK133.out) hb); have n3_ := Aside0.mk (qL (g := gb134) (o := .cells #[.slice none 0 0, .slice none 0 0, .int .i64 0, .int .i64 0] 26 (0, 0)) (by (with_reducible repeat (first | refine qE ?_ _ | refine qI ?_ | refine qD ?_ _)); exact BK134.out) hb); have n4_ := Aside0.mk (qL (g := gb135) (o := .cells #[.int .i64 a1, .string a2] 70 (0, 0)) (by (with_reducible repeat (first | refine qE ?_ _ | refine qI ?_ | refine qD ?_ _)); exact BK135.out) hb); have n5_ := Aside0.mk (qO (by repeat (first | (with_reducible first | exact HB.out | apply qH | apply qA | apply qG | refine qF ?_ GE133.out | refine qF ?_ GE134.out | refine qF ?_ GE135.out) | exact HB.out)) hb); clear BK133; clear BK134; clear BK135; clear HB; have HO155 := n0_; have HO158 := n1_; have BK133 := n2_; have BK134 := n3_; have BK135 := n4_; have HB := n5_; clear n0_ n1_ n2_ n3_ n4_ n5_; (try clear hb); (try clear hb2); (try clear hk); (try clear hi); (try clear ho0); (try clear ho1)) | ((with_reducible refine qX (N := 9) rfl ?_); refine qW ?hg (N := 9) ?hd (cs := #[.slice none 0 0, .slice none 0 0, .int .i64 0, .int .i64 0]) (t := 26) ?hr ?_; (case hd => rfl); (case hg => rfl); (case hr => first | (go_simp; done) | (go_simp; rfl)); intro gb161 hg w64 hbox hb; have n0_ := Aside0.mk (Kd.qR (by (with_reducible repeat (first | apply Kd.qK | apply Kd.qJ | apply Kd.qN)); exact HO155.out) hb); have n1_ := Aside0.mk (Kd.qR (by (with_reducible repeat (first | apply Kd.qK | apply Kd.qJ | apply Kd.qN)); exact HO158.out) hb); have n2_ := Aside0.mk (qL (g := gb133) (o := .cells #[.slice A0_0 l0_0.length c0_0, .slice A0_1 l0_1.length c0_1, .int .i64 a0_2, .int .i64 a0_3] 26 (0, 0)) (by (with_reducible repeat (first | refine qE ?_ _ | refine qI ?_ | refine qD ?_ _)); exact BK133.out) hb); have n3_ := Aside0.mk (qL (g := gb134) (o := .cells #[.slice none 0 0, .slice none 0 0, .int .i64 0, .int .i64 0] 26 (0, 0)) (by (with_reducible repeat (first | refine qE ?_ _ | refine qI ?_ | refine qD ?_ _)); exact BK134.out) hb); have n4_ := Aside0.mk (qL (g := gb135) (o := .cells #[.int .i64 a1, .string a2] 70 (0, 0)) (by (with_reducible repeat (first | refine qE ?_ _ | refine qI ?_ | refine qD ?_ _)); exact BK135.out) hb); have n5_ := Aside0.mk (qO (by repeat (first | (with_reducible first | exact HB.out | apply qH | apply qA | apply qG | refine qF ?_ GE133.out | refine qF ?_ GE134.out | refine qF ?_ GE135.out) | exact HB.out)) hb); have n6_ := Aside0.mk (hbox); have n7_ := Aside0.mk ((by rw [hg]; exact (qM (by repeat (first | (with_reducible first | exact HB.out | apply qH | apply qA | apply qG | refine qF ?_ GE133.out | refine qF ?_ GE134.out | refine qF ?_ GE135.out) | exact HB.out))) : w.heap.size ≤ gb161)); have n8_ := Aside0.mk ((by rw [hg]; exact (qM (by repeat (first | (with_reducible first | exact HB.out | apply qH | apply qA | apply qG | refine qF ?_ GE133.out | refine qF ?_ GE134.out | refine qF ?_ GE135.out) | exact HB.out))) : w.heap.size ≤ gb161)); have n9_ := Aside0.mk ((by rw [hg]; exact Nat.ne_of_lt (zB (g := gb133) (o := .cells #[.slice A0_0 l0_0.length c0_0, .slice A0_1 l0_1.length c0_1, .int .i64 a0_2, .int .i64 a0_3] 26 (0, 0)) (by (with_reducible repeat (first | refine qE ?_ _ | refine qI ?_ | refine qD ?_ _)); exact BK133.out)) : gb133 ≠ gb161)); have n10_ := Aside0.mk ((by rw [hg]; exact Nat.ne_of_gt (zB (g := gb133) (o := .cells #[.slice A0_0 l0_0.length c0_0, .slice A0_1 l0_1.length c0_1, .int .i64 a0_2, .int .i64 a0_3] 26 (0, 0)) (by (with_reducible repeat (first | refine qE ?_ _ | refine qI ?_ | refine qD ?_ _)); exact BK133.out)) : gb161 ≠ gb133)); have n11_ := Aside0.mk ((by rw [hg]; exact Nat.ne_of_lt (zB (g := gb134) (o := .cells #[.slice none 0 0, .slice none 0 0, .int .i64 0, .int .i64 0] 26 (0, 0)) (by (with_reducible repeat (first | refine qE ?_ _ | refine qI ?_ | refine qD ?_ _)); exact BK134.out)) : gb134 ≠ gb161)); have n12_ := Aside0.mk ((by rw [hg]; exact Nat.ne_of_gt (zB (g := gb134) (o := .cells #[.slice none 0 0, .slice none 0 0, .int .i64 0, .int .i64 0] 26 (0, 0)) (by (with_reducible repeat (first | refine qE ?_ _ | refine qI ?_ | refine qD ?_ _)); exact BK134.out)) : gb161 ≠ gb134)); have n13_ := Aside0.mk ((by rw [hg]; exact Nat.ne_of_lt (zB (g := gb135) (o := .cells #[.int .i64 a1, .string a2] 70 (0, 0)) (by (with_reducible repeat (first | refine qE ?_ _ | refine qI ?_ | refine qD ?_ _)); exact BK135.out)) : gb135 ≠ gb161)); have n14_ := Aside0.mk ((by rw [hg]; exact Nat.ne_of_gt (zB (g := gb135) (o := .cells #[.int .i64 a1, .string a2] 70 (0, 0)) (by (with_reducible repeat (first | refine qE ?_ _ | refine qI ?_ | refine qD ?_ _)); exact BK135.out)) : gb161 ≠ gb135)); clear HO155; clear HO158; clear BK133; clear BK134; clear BK135; clear HB; have HO155 := n0_; have HO158 := n1_; have BK133 := n2_; have BK134 := n3_; have BK135 := n4_; have HB := n5_; have BK161 := n6_; have GW161 := n7_; have GE161 := n8_; have NB133_161 := n9_; have NB161_133 := n10_; have NB134_161 := n11_; have NB161_134 := n12_; have NB135_161 := n13_; have NB161_135 := n14_; clear n0_ n1_ n2_ n3_ n4_ n5_ n6_ n7_ n8_ n9_ n10_ n11_ n12_ n13_ n14_; clear hb hbox hg; obtain ⟨Ao65, co65, eo65⟩ := Kd.zE HO155.out; subst eo65; have hnb66 := NB161_133.out; have hnc66 := NB133_161.out; have hnb67 := NB161_134.out; have hnc67 := NB134_161.out; have hnb68 := NB161_135.out; have hnc68 := NB135_161.out; have hcz69_0 : w64.cell? ⟨gb161, 0, none⟩ = some (.slice none 0 0) := (qC BK161.out 0).trans rfl; have hcz69_1 : w64.cell? ⟨gb161, 1, none⟩ = some (.slice none 0 0) := (qC BK161.out 1).trans rfl; have hcz69_2 : w64.cell? ⟨gb161, 2, none⟩ = some (.int .i64 0) := (qC BK161.out 2).trans rfl; have hcz69_3 : w64.cell? ⟨gb161, 3, none⟩ = some (.int .i64 0) := (qC BK161.out 3).trans rfl; have hfz69_0 := qB BK161.out 0; have hfz69_1 := qB BK161.out 1; have hfz69_2 := qB BK161.out 2; have hfz69_3 := qB BK161.out 3; obtain ⟨Ao70, co70, eo70⟩ := Kd.zE HO158.out; subst eo70; have hnb71 := NB135_134.out; have hnc71 := NB134_135.out; have hcz72_0 : w64.cell? ⟨gb135, 0, none⟩ = some (.int .i64 a1) := (qC BK135.out 0).trans rfl; have hcz72_1 : w64.cell? ⟨gb135, 1, none⟩ = some (.string a2) := (qC BK135.out 1).trans rfl; have hfz72_0 := qB BK135.out 0; have hfz72_1 := qB BK135.out 1) | ((with_reducible refine zV (b := .append) (xs := #[.tmp 37, .tmp 39]) rfl ?_); at_builtin; refine Kd.R_append k70 (w0 := w) w.heap.size rfl (.tmp 37) (.tmp 39) 24 70 (.agg #[(.int .i64 0), (.string ⟨#[]⟩)]) 24 rfl Try.underlying24 info70 rfl (by decide) (by omega) (.slice Ao70 t156.length co70) t156 (⟨a1, a2⟩ : S70) [.int .i64 a1, .string a2] (fun k_ => k_ ≠ gb135) (fun _ => False) rfl (by first | (go_simp; done) | (go_simp; rfl)) ?aP (fun _ hk => hk.elim) ?aF ?aO ?aB ?aS ?aL ?_; (case aP => exact k70_mkM _ _ _ (⟨a1, a2⟩ : S70)); (case aB => exact (by repeat (first | (with_reducible first | exact HB.out | apply qH | apply qA | apply qG | refine qF ?_ GE133.out | refine qF ?_ GE134.out | refine qF ?_ GE135.out | refine qF ?_ GE161.out) | exact HB.out))); (case aF => exact (fun k_ hk => Kd.freshB (g := gb135) (o := .cells #[.int .i64 a1, .string a2] 70 (0, 0)) (by (with_reducible repeat (first | refine qE ?_ _ | refine qI ?_ | refine qD ?_ _)); refine qQ ?_ NB135_161.out _; (with_reducible repeat (first | refine qE ?_ _ | refine qI ?_ | refine qD ?_ _)); refine qQ ?_ NB135_161.out _; (with_reducible repeat (first | refine qE ?_ _ | refine qI ?_ | refine qD ?_ _)); refine qQ ?_ NB135_161.out _; (with_reducible repeat (first | refine qE ?_ _ | refine qI ?_ | refine qD ?_ _)); refine qQ ?_ NB135_161.out _; (with_reducible repeat (first | refine qE ?_ _ | refine qI ?_ | refine qD ?_ _)); exact BK135.out) k_ hk)); (case aO => exact (by (with_reducible repeat (first | apply Kd.qK | apply Kd.qJ | apply Kd.qN)); exact Kd.qP (Kd.R_far (p := ⟨gb161, 3, none⟩) (Kd.R_far (p := ⟨gb161, 2, none⟩) (Kd.R_far (p := ⟨gb161, 1, none⟩) (Kd.R_far (p := ⟨gb161, 0, none⟩) (Kd.qV HO158.out BK161.out (by decide)) (fun _ hk => hk.2) (.slice Ao65 t153.length co65)) (fun _ hk => hk.2) (.slice Ao70 t156.length co70)) (fun _ hk => hk.2) (.int .i64 t159)) (fun _ hk => hk.2) (.int .i64 t160)) (fun _ hk => hk.1.2))); (case aS => exact (qM (by repeat (first | (with_reducible first | exact HB.out | apply qH | apply qA | apply qG | refine qF ?_ GE133.out | refine qF ?_ GE134.out | refine qF ?_ GE135.out | refine qF ?_ GE161.out) | exact HB.out)))); (case aL => have := LMc57.out; omega); intro v163 w73 ho hb hg hat; rw [← Ny162.out] at ho; have n0_ := Aside0.mk (zP (g := gb133) (o := .cells #[.slice A0_0 l0_0.length c0_0, .slice A0_1 l0_1.length c0_1, .int .i64 a0_2, .int .i64 a0_3] 26 (0, 0)) (by (with_reducible repeat (first | refine qE ?_ _ | refine qI ?_ | refine qD ?_ _)); refine qQ ?_ NB133_161.out _; (with_reducible repeat (first | refine qE ?_ _ | refine qI ?_ | refine qD ?_ _)); refine qQ ?_ NB133_161.out _; (with_reducible repeat (first | refine qE ?_ _ | refine qI ?_ | refine qD ?_ _)); refine qQ ?_ NB133_161.out _; (with_reducible repeat (first | refine qE ?_ _ | refine qI ?_ | refine qD ?_ _)); refine qQ ?_ NB133_161.out _; (with_reducible repeat (first | refine qE ?_ _ | refine qI ?_ | refine qD ?_ _)); exact BK133.out) hg (Kd.R_ne HO158.out BK133.out (by decide))); have n1_ := Aside0.mk (zP (g := gb134) (o := .cells #[.slice none 0 0, .slice none 0 0, .int .i64 0, .int .i64 0] 26 (0, 0)) (by (with_reducible repeat (first | refine qE ?_ _ | refine qI ?_ | refine qD ?_ _)); refine qQ ?_ NB134_161.out _; (with_reducible repeat (first | refine qE ?_ _ | refine qI ?_ | refine qD ?_ _)); refine qQ ?_ NB134_161.out _; (with_reducible repeat (first | refine qE ?_ _ | refine qI ?_ | refine qD ?_ _)); refine qQ ?_ NB134_161.out _; (with_reducible repeat (first | refine qE ?_ _ | refine qI ?_ | refine qD ?_ _)); refine qQ ?_ NB134_161.out _; (with_reducible repeat (first | refine qE ?_ _ | refine qI ?_ | refine qD ?_ _)); exact BK134.out) hg (Kd.R_ne HO158.out BK134.out (by decide))); have n2_ := Aside0.mk (zP (g := gb135) (o := .cells #[.int .i64 a1, .string a2] 70 (0, 0)) (by (with_reducible repeat (first | refine qE ?_ _ | refine qI ?_ | refine qD ?_ _)); refine qQ ?_ NB135_161.out _; (with_reducible repeat (first | refine qE ?_ _ | refine qI ?_ | refine qD ?_ _)); refine qQ ?_ NB135_161.out _; (with_reducible repeat (first | refine qE ?_ _ | refine qI ?_ | refine qD ?_ _)); refine qQ ?_ NB135_161.out _; (with_reducible repeat (first | refine qE ?_ _ | refine qI ?_ | refine qD ?_ _)); refine qQ ?_ NB135_161.out _; (with_reducible repeat (first | refine qE ?_ _ | refine qI ?_ | refine qD ?_ _)); exact BK135.out) hg (Kd.R_away HO158.out (fun _ hk => hk.2))); have n3_ := Aside0.mk (Kd.R_over' (by (with_reducible repeat (first | apply Kd.qK | apply Kd.qJ | apply Kd.qN)); exact (Kd.qP (Kd.R_far (p := ⟨gb161, 3, none⟩) (Kd.R_far (p := ⟨gb161, 2, none⟩) (Kd.R_far (p := ⟨gb161, 1, none⟩) (Kd.R_far (p := ⟨gb161, 0, none⟩) (Kd.qV HO155.out BK161.out (by decide)) (fun _ hk => hk.2) (.slice Ao65 t153.length co65)) (fun _ hk => hk.2) (.slice Ao70 t156.length co70)) (fun _ hk => hk.2) (.int .i64 t159)) (fun _ hk => hk.2) (.int .i64 t160)) (fun _ h_ => h_.1))) (Kd.zO (by (with_reducible repeat (first | apply Kd.qK | apply Kd.qJ | apply Kd.qN)); exact (Kd.qP (Kd.R_far (p := ⟨gb161, 3, none⟩) (Kd.R_far (p := ⟨gb161, 2, none⟩) (Kd.R_far (p := ⟨gb161, 1, none⟩) (Kd.R_far (p := ⟨gb161, 0, none⟩) (Kd.qV HO158.out BK161.out (by decide)) (fun _ hk => hk.2) (.slice Ao65 t153.length co65)) (fun _ hk => hk.2) (.slice Ao70 t156.length co70)) (fun _ hk => hk.2) (.int .i64 t159)) (fun _ hk => hk.2) (.int .i64 t160)) (fun _ h_ => h_.1)))) (by decide) hg); have n4_ := Aside0.mk (zP (g := gb161) (o := .cells #[.slice Ao65 t153.length co65, .slice Ao70 t156.length co70, .int .i64 t159, .int .i64 t160] 26 (0, 0)) (by (with_reducible repeat (first | refine qE ?_ _ | refine qI ?_ | refine qD ?_ _)); refine qU (cs := #[.slice Ao65 t153.length co65, .slice Ao70 t156.length co70, .int .i64 t159, .int .i64 0]) ?_ 3 _ rfl; (with_reducible repeat (first | refine qE ?_ _ | refine qI ?_ | refine qD ?_ _)); refine qU (cs := #[.slice Ao65 t153.length co65, .slice Ao70 t156.length co70, .int .i64 0, .int .i64 0]) ?_ 2 _ rfl; (with_reducible repeat (first | refine qE ?_ _ | refine qI ?_ | refine qD ?_ _)); refine qU (cs := #[.slice Ao65 t153.length co65, .slice none 0 0, .int .i64 0, .int .i64 0]) ?_ 1 _ rfl; (with_reducible repeat (first | refine qE ?_ _ | refine qI ?_ | refine qD ?_ _)); refine qU (cs := #[.slice none 0 0, .slice none 0 0, .int .i64 0, .int .i64 0]) ?_ 0 _ rfl; (with_reducible repeat (first | refine qE ?_ _ | refine qI ?_ | refine qD ?_ _)); exact BK161.out) hg (Kd.R_ne HO158.out BK161.out (by decide))); have n5_ := Aside0.mk (hb); have n6_ := Aside0.mk (ho); clear BK133; clear BK134; clear BK135; clear HO155; clear BK161; clear HB; clear HO158; have BK133 := n0_; have BK134 := n1_; have BK135 := n2_; have HO155 := n3_; have BK161 := n4_; have HB := n5_; have HO164 := n6_; clear n0_ n1_ n2_ n3_ n4_ n5_ n6_; clear ho hb hg hat; obtain ⟨Ao74, co74, eo74⟩ := Kd.zE HO164.out; subst eo74; have hcz75_0 : w73.cell? ⟨gb161, 0, none⟩ = some (.slice Ao65 t153.length co65) := (qC BK161.out 0).trans rfl; have hcz75_1 : w73.cell? ⟨gb161, 1, none⟩ = some (.slice Ao70 t156.length co70) := (qC BK161.out 1).trans rfl; have hcz75_2 : w73.cell? ⟨gb161, 2, none⟩ = some (.int .i64 t159) := (qC BK161.out 2).trans rfl; have hcz75_3 : w73.cell? ⟨gb161, 3, none⟩ = some (.int .i64 t160) := (qC BK161.out 3).trans rfl; have hfz75_0 := qB BK161.out 0; have hfz75_1 := qB BK161.out 1; have hfz75_2 := qB BK161.out 2; have hfz75_3 := qB BK161.out 3; have hcz76_0 : w73.cell? ⟨gb133, 0, none⟩ = some (.slice A0_0 l0_0.length c0_0) := (qC BK133.out 0).trans rfl; have hcz76_1 : w73.cell? ⟨gb133, 1, none⟩ = some (.slice A0_1 l0_1.length c0_1) := (qC BK133.out 1).trans rfl; have hcz76_2 : w73.cell? ⟨gb133, 2, none⟩ = some (.int .i64 a0_2) := (qC BK133.out 2).trans rfl; have hcz76_3 : w73.cell? ⟨gb133, 3, none⟩ = some (.int .i64 a0_3) := (qC BK133.out 3).trans rfl; have hfz76_0 := qB BK133.out 0; have hfz76_1 := qB BK133.out 1; have hfz76_2 := qB BK133.out 2; have hfz76_3 := qB BK133.out 3) | ((with_reducible refine qT (f := 69) rfl ?_); refine zD (some 44) rfl rfl Try.func69 (by kernel_rfl) rfl #[.int .i64 a0_3] rfl (by (try simp only [List.map_toArray, List.map_cons, List.map_nil]); first | done | rfl | (simp only [List.length_drop, List.length_take]; rfl)) ?_; (with_reducible refine (spec_l7Less.calls a0_3 t165 _ A58.out).mono ?_); rintro e w' ⟨rfl, ⟨nd, rfl⟩⟩; refine ⟨_, rfl, ?_⟩) | ((with_reducible refine qT (f := 69) rfl ?_); refine zD (some 48) rfl rfl Try.func69 (by kernel_rfl) rfl #[.int .i64 a0_2] rfl (by (try simp only [List.map_toArray, List.map_cons, List.map_nil]); first | done | rfl | (simp only [List.length_drop, List.length_take]; rfl)) ?_; (with_reducible refine (spec_l7Less.calls a0_2 t166 _ A59.out).mono ?_); rintro e w' ⟨rfl, ⟨nd, rfl⟩⟩; refine ⟨_, rfl, ?_⟩; have hcz77_0 : w73.cell? ⟨gb134, 0, none⟩ = some (.slice none 0 0) := (qC BK134.out 0).trans rfl; have hcz77_1 : w73.cell? ⟨gb134, 1, none⟩ = some (.slice none 0 0) := (qC BK134.out 1).trans rfl; have hcz77_2 : w73.cell? ⟨gb134, 2, none⟩ = some (.int .i64 0) := (qC BK134.out 2).trans rfl; have hcz77_3 : w73.cell? ⟨gb134, 3, none⟩ = some (.int .i64 0) := (qC BK134.out 3).trans rfl; have hfz77_0 := qB BK134.out 0; have hfz77_1 := qB BK134.out 1; have hfz77_2 := qB BK134.out 2; have hfz77_3 := qB BK134.out 3))
            refine bodyPost_ret (xA rfl _ _ gb134 26 #[.slice Ao65 t153.length co65, .slice Ao74 y162.length co74, .int .i64 t166, .int .i64 t165] (0, 0) _ rfl (by (with_reducible repeat (first | refine qE ?_ _ | refine qI ?_ | refine qD ?_ _)); refine qU (cs := #[.slice Ao65 t153.length co65, .slice Ao74 y162.length co74, .int .i64 t166, .int .i64 0]) ?_ 3 _ rfl; (with_reducible repeat (first | refine qE ?_ _ | refine qI ?_ | refine qD ?_ _)); refine qU (cs := #[.slice Ao65 t153.length co65, .slice Ao74 y162.length co74, .int .i64 0, .int .i64 0]) ?_ 2 _ rfl; (with_reducible repeat (first | refine qE ?_ _ | refine qI ?_ | refine qD ?_ _)); refine qU (cs := #[.slice Ao65 t153.length co65, .slice none 0 0, .int .i64 0, .int .i64 0]) ?_ 1 _ rfl; (with_reducible repeat (first | refine qE ?_ _ | refine qI ?_ | refine qD ?_ _)); refine qU (cs := #[.slice none 0 0, .slice none 0 0, .int .i64 0, .int .i64 0]) ?_ 0 _ rfl; (with_reducible repeat (first | refine qE ?_ _ | refine qI ?_ | refine qD ?_ _)); refine qQ ?_ NB134_161.out _; (with_reducible repeat (first | refine qE ?_ _ | refine qI ?_ | refine qD ?_ _)); refine qQ ?_ NB134_161.out _; (with_reducible repeat (first | refine qE ?_ _ | refine qI ?_ | refine qD ?_ _)); refine qQ ?_ NB134_161.out _; (with_reducible repeat (first | refine qE ?_ _ | refine qI ?_ | refine qD ?_ _)); exact BK134.out) Try.underlying26 rfl (by kernel_rfl)) rfl ?_
            exact ⟨_, _, by first | rfl | (simp [errW_none, errW_some] <;> rfl) | (simp [*, errW_none, errW_some] <;> rfl), by (with_reducible repeat (first | apply Kd.qK | apply Kd.qJ | apply Kd.qN)); exact Kd.qP (Kd.R_far (p := ⟨gb134, 3, none⟩) (Kd.R_far (p := ⟨gb134, 2, none⟩) (Kd.R_far (p := ⟨gb134, 1, none⟩) (Kd.R_far (p := ⟨gb134, 0, none⟩) (Kd.R_far (p := ⟨gb161, 2, none⟩) (Kd.R_far (p := ⟨gb161, 3, none⟩) (Kd.R_far (p := ⟨gb161, 1, none⟩) (Kd.qV (Kd.qV HO155.out BK161.out (by decide)) BK134.out (by decide)) (fun _ hk => hk.1.2) (.slice Ao74 y162.length co74)) (fun _ hk => hk.1.2) (.int .i64 t165)) (fun _ hk => hk.1.2) (.int .i64 t166)) (fun _ hk => hk.2) (.slice Ao65 t153.length co65)) (fun _ hk => hk.2) (.slice Ao74 y162.length co74)) (fun _ hk => hk.2) (.int .i64 t166)) (fun _ hk => hk.2) (.int .i64 t165)) (fun _ hk => trivial), by (with_reducible repeat (first | apply Kd.qK | apply Kd.qJ | apply Kd.qN)); exact Kd.qP (Kd.R_far (p := ⟨gb134, 3, none⟩) (Kd.R_far (p := ⟨gb134, 2, none⟩) (Kd.R_far (p := ⟨gb134, 1, none⟩) (Kd.R_far (p := ⟨gb134, 0, none⟩) (Kd.R_far (p := ⟨gb161, 2, none⟩) (Kd.R_far (p := ⟨gb161, 3, none⟩) (Kd.R_far (p := ⟨gb161, 1, none⟩) (Kd.qV (Kd.qV HO164.out BK161.out (by decide)) BK134.out (by decide)) (fun _ hk => hk.1.2) (.slice Ao74 y162.length co74)) (fun _ hk => hk.1.2) (.int .i64 t165)) (fun _ hk => hk.1.2) (.int .i64 t166)) (fun _ hk => hk.2) (.slice Ao65 t153.length co65)) (fun _ hk => hk.2) (.slice Ao74 y162.length co74)) (fun _ hk => hk.2) (.int .i64 t166)) (fun _ hk => hk.2) (.int .i64 t165)) (fun _ hk => trivial), by repeat (first | (with_reducible first | exact HB.out | apply qH | apply qA | apply qG | refine qF ?_ GE133.out | refine qF ?_ GE134.out | refine qF ?_ GE135.out | refine qF ?_ GE161.out) | exact HB.out)⟩
          · rw [if_neg c57] at H
            exact absurd H (by simp)

/-! ### spec_DiskWrite: function 18 -/
def spec_DiskWrite.f (k : Nat) (l0_0 : List ByteArray) (l0_1 : List (S70)) (a0_2 : Int) (a0_3 : Int) (a1 : Int) (a2 : ByteArray) : Option (List ByteArray × (List (S70)) × Int × Int × Bool) := (spec_l7Ok.f k l0_0 l0_1 a0_2 a0_3).bind fun t169 => (if t169 = true then ((spec_l7Write.f k l0_0 l0_1 a0_2 a0_3 a1 a2).bind fun bt170 => (some (bt170.1, bt170.2.1, bt170.2.2.1, bt170.2.2.2.1, bt170.2.2.2.2))) else (some (([] : List ByteArray), ([] : List (S70)), 0, 0, false)))
theorem spec_DiskWrite.mono : ∀ a0 a1 a2 a3 a4 a5 k, LeO (spec_DiskWrite.f k a0 a1 a2 a3 a4 a5) (spec_DiskWrite.f (k + 1) a0 a1 a2 a3 a4 a5) := by
  intro a0 a1 a2 a3 a4 a5 k
  unfold spec_DiskWrite.f
  repeat' first
      | (with_reducible exact spec_l7Ok.mono _ _ _ _ _)
      | (with_reducible exact spec_l7Write.mono _ _ _ _ _ _ _)
      | (with_reducible exact LeO.refl _)
      | (with_reducible exact LeO.none _)
      | (with_reducible refine LeO.ite ?_ ?_)
      | (with_reducible refine LeO.bind ?_ (fun _ => ?_))
      | exact spec_l7Ok.mono _ _ _ _ _
      | exact spec_l7Write.mono _ _ _ _ _ _ _
      | exact LeO.none _
      | refine LeO.ite ?_ ?_
      | refine LeO.bind ?_ (fun _ => ?_)
set_option maxHeartbeats 8000000 in
set_option maxRecDepth 100000 in
theorem spec_DiskWrite.calls (k : Nat) (A0_0 : Option Addr) (c0_0 : Nat) (l0_0 : List ByteArray) (A0_1 : Option Addr) (c0_1 : Nat) (l0_1 : List (S70)) (a0_2 : Int) (a0_3 : Int) (a1 : Int) (a2 : ByteArray) (r1 : List ByteArray) (r2 : List (S70)) (r3 : Int) (r4 : Int) (r5 : Bool) (w : World) (hr0_0 : Kd.C Kd.string w A0_0 l0_0.length l0_0) (hc0_0 : l0_0.length ≤ c0_0) (hr0_1 : Kd.C k70 w A0_1 l0_1.length l0_1) (hc0_1 : l0_1.length ≤ c0_1) (h : spec_DiskWrite.f k l0_0 l0_1 a0_2 a0_3 a1 a2 = some (r1, r2, r3, r4, r5)) :
    Calls Try.prog 18 #[.agg #[.slice A0_0 l0_0.length c0_0, .slice A0_1 l0_1.length c0_1, .int .i64 a0_2, .int .i64 a0_3], .int .i64 a1, .string a2] w fun e w' => ∃ v0_ v1_ : Value, e = .returned (.tuple #[.agg #[v0_, v1_, .int .i64 r3, .int .i64 r4], .bool r5]) ∧ Kd.R Kd.string 9 w' w.heap.size (fun _ => True) v0_ r1 ∧ Kd.R k70 70 w' w.heap.size (fun _ => True) v1_ r2 ∧ Below w.heap.size w w' := by
  have hu26 := Try.underlying26
  have HR0_0 := Aside0.mk hr0_0
  have HC0_0 := Aside0.mk hc0_0
  clear hr0_0 hc0_0
  have HR0_1 := Aside0.mk hr0_1
  have HC0_1 := Aside0.mk hc0_1
  clear hr0_1 hc0_1
  have HB := Aside0.mk (Below.refl w.heap.size w)
  have H : ((spec_l7Ok.f k l0_0 l0_1 a0_2 a0_3).bind fun t169 => (if t169 = true then ((spec_l7Write.f k l0_0 l0_1 a0_2 a0_3 a1 a2).bind fun bt170 => (some (bt170.1, bt170.2.1, bt170.2.2.1, bt170.2.2.2.1, bt170.2.2.2.2))) else (some (([] : List ByteArray), ([] : List (S70)), 0, 0, false)))) = some (r1, r2, r3, r4, r5) := h
  clear h
  replace H := Option.bind_eq_some_iff.mp H
  obtain ⟨t169, A40, H⟩ := H
  replace H : (if t169 = true then ((spec_l7Write.f k l0_0 l0_1 a0_2 a0_3 a1 a2).bind fun bt170 => (some (bt170.1, bt170.2.1, bt170.2.2.1, bt170.2.2.2.1, bt170.2.2.2.2))) else (some (([] : List ByteArray), ([] : List (S70)), 0, 0, false))) = some (r1, r2, r3, r4, r5) := H
  have A4 := Aside0.mk A40
  clear A40
  by_cases c5 : t169 = true
  · subst c5
    have H1 : ((spec_l7Write.f k l0_0 l0_1 a0_2 a0_3 a1 a2).bind fun bt170 => (some (bt170.1, bt170.2.1, bt170.2.2.1, bt170.2.2.2.1, bt170.2.2.2.2))) = some (r1, r2, r3, r4, r5) := by rw [if_pos rfl] at H; exact H
    clear H
    have H := H1
    clear H1
    replace H := Option.bind_eq_some_iff.mp H
    obtain ⟨⟨t170, t173, t176, t177, t178⟩, A60, H⟩ := H
    replace H : (some (t170, t173, t176, t177, t178)) = some (r1, r2, r3, r4, r5) := H
    have A6 := Aside0.mk A60
    clear A60
    simp only [Option.some.injEq, Prod.mk.injEq] at H
    obtain ⟨rfl, rfl, rfl, rfl, rfl⟩ := H
    go_enter Try.func18, Try.ntmps18
    go_wp2_with (first | ((with_reducible refine qX (N := 3) rfl ?_); refine qW ?hg (N := 3) ?hd (cs := #[.slice A0_0 l0_0.length c0_0, .slice A0_1 l0_1.length c0_1, .int .i64 a0_2, .int .i64 a0_3]) (t := 26) ?hr ?_; (case hd => rfl); (case hg => rfl); (case hr => first | (go_simp; done) | (go_simp; rfl)); intro gb167 hg w7 hbox hb; have n0_ := Aside0.mk (qO (by repeat (first | (with_reducible first | exact HB.out | apply qH | apply qA | apply qG) | exact HB.out)) hb); have n1_ := Aside0.mk (hbox); have n2_ := Aside0.mk ((by rw [hg]; exact (qM (by repeat (first | (with_reducible first | exact HB.out | apply qH | apply qA | apply qG) | exact HB.out))) : w.heap.size ≤ gb167)); have n3_ := Aside0.mk ((by rw [hg]; exact (qM (by repeat (first | (with_reducible first | exact HB.out | apply qH | apply qA | apply qG) | exact HB.out))) : w.heap.size ≤ gb167)); clear HB; have HB := n0_; have BK167 := n1_; have GW167 := n2_; have GE167 := n3_; clear n0_ n1_ n2_ n3_; clear hb hbox hg) | ((with_reducible refine qX (N := 6) rfl ?_); refine qW ?hg (N := 6) ?hd (cs := #[.slice none 0 0, .slice none 0 0, .int .i64 0, .int .i64 0]) (t := 26) ?hr ?_; (case hd => rfl); (case hg => rfl); (case hr => first | (go_simp; done) | (go_simp; rfl)); intro gb168 hg w8 hbox hb; have n0_ := Aside0.mk (qL (g := gb167) (o := .cells #[.slice A0_0 l0_0.length c0_0, .slice A0_1 l0_1.length c0_1, .int .i64 a0_2, .int .i64 a0_3] 26 (0, 0)) (by (with_reducible repeat (first | refine qE ?_ _ | refine qI ?_ | refine qD ?_ _)); exact BK167.out) hb); have n1_ := Aside0.mk (qO (by repeat (first | (with_reducible first | exact HB.out | apply qH | apply qA | apply qG | refine qF ?_ GE167.out) | exact HB.out)) hb); have n2_ := Aside0.mk (hbox); have n3_ := Aside0.mk ((by rw [hg]; exact (qM (by repeat (first | (with_reducible first | exact HB.out | apply qH | apply qA | apply qG | refine qF ?_ GE167.out) | exact HB.out))) : w.heap.size ≤ gb168)); have n4_ := Aside0.mk ((by rw [hg]; exact (qM (by repeat (first | (with_reducible first | exact HB.out | apply qH | apply qA | apply qG | refine qF ?_ GE167.out) | exact HB.out))) : w.heap.size ≤ gb168)); have n5_ := Aside0.mk ((by rw [hg]; exact Nat.ne_of_lt (zB (g := gb167) (o := .cells #[.slice A0_0 l0_0.length c0_0, .slice A0_1 l0_1.length c0_1, .int .i64 a0_2, .int .i64 a0_3] 26 (0, 0)) (by (with_reducible repeat (first | refine qE ?_ _ | refine qI ?_ | refine qD ?_ _)); exact BK167.out)) : gb167 ≠ gb168)); have n6_ := Aside0.mk ((by rw [hg]; exact Nat.ne_of_gt (zB (g := gb167) (o := .cells #[.slice A0_0 l0_0.length c0_0, .slice A0_1 l0_1.length c0_1, .int .i64 a0_2, .int .i64 a0_3] 26 (0, 0)) (by (with_reducible repeat (first | refine qE ?_ _ | refine qI ?_ | refine qD ?_ _)); exact BK167.out)) : gb168 ≠ gb167)); clear BK167; clear HB; have BK167 := n0_; have HB := n1_; have BK168 := n2_; have GW168 := n3_; have GE168 := n4_; have NB167_168 := n5_; have NB168_167 := n6_; clear n0_ n1_ n2_ n3_ n4_ n5_ n6_; clear hb hbox hg; have hnb9 := NB167_168.out; have hnc9 := NB168_167.out; have hcz10_0 : w8.cell? ⟨gb167, 0, none⟩ = some (.slice A0_0 l0_0.length c0_0) := (qC BK167.out 0).trans rfl; have hcz10_1 : w8.cell? ⟨gb167, 1, none⟩ = some (.slice A0_1 l0_1.length c0_1) := (qC BK167.out 1).trans rfl; have hcz10_2 : w8.cell? ⟨gb167, 2, none⟩ = some (.int .i64 a0_2) := (qC BK167.out 2).trans rfl; have hcz10_3 : w8.cell? ⟨gb167, 3, none⟩ = some (.int .i64 a0_3) := (qC BK167.out 3).trans rfl; have hfz10_0 := qB BK167.out 0; have hfz10_1 := qB BK167.out 1; have hfz10_2 := qB BK167.out 2; have hfz10_3 := qB BK167.out 3) | ((with_reducible refine qT (f := 37) rfl ?_); refine zD (some 9) rfl rfl Try.func37 (by kernel_rfl) rfl #[.agg #[.slice A0_0 l0_0.length c0_0, .slice A0_1 l0_1.length c0_1, .int .i64 a0_2, .int .i64 a0_3]] rfl (by (try simp only [List.map_toArray, List.map_cons, List.map_nil]); first | done | rfl | (simp only [List.length_drop, List.length_take]; rfl)) ?_; (with_reducible refine (spec_l7Ok.calls k _ _ l0_0 _ _ l0_1 a0_2 a0_3 true _ ?side1 ?side2 ?side3 ?side4 A4.out).mono ?_); (case side1 => repeat (first | exact (Kd.qY HR0_0.out HB.out) | (with_reducible refine Kd.qZ ?_ _) | (with_reducible refine Kd.zA ?_ _) | (with_reducible refine Kd.zC ?_))); (case side2 => exact HC0_0.out); (case side3 => repeat (first | exact (Kd.qY HR0_1.out HB.out) | (with_reducible refine Kd.qZ ?_ _) | (with_reducible refine Kd.zA ?_ _) | (with_reducible refine Kd.zC ?_))); (case side4 => exact HC0_1.out); rintro e w11 ⟨rfl, hb⟩; refine ⟨_, rfl, ?_⟩; have n0_ := Aside0.mk (qL (g := gb167) (o := .cells #[.slice A0_0 l0_0.length c0_0, .slice A0_1 l0_1.length c0_1, .int .i64 a0_2, .int .i64 a0_3] 26 (0, 0)) (by (with_reducible repeat (first | refine qE ?_ _ | refine qI ?_ | refine qD ?_ _)); exact BK167.out) hb); have n1_ := Aside0.mk (qL (g := gb168) (o := .cells #[.slice none 0 0, .slice none 0 0, .int .i64 0, .int .i64 0] 26 (0, 0)) (by (with_reducible repeat (first | refine qE ?_ _ | refine qI ?_ | refine qD ?_ _)); exact BK168.out) hb); have n2_ := Aside0.mk (qO (by repeat (first | (with_reducible first | exact HB.out | apply qH | apply qA | apply qG | refine qF ?_ GE167.out | refine qF ?_ GE168.out) | exact HB.out)) hb); clear BK167; clear BK168; clear HB; have BK167 := n0_; have BK168 := n1_; have HB := n2_; clear n0_ n1_ n2_; (try clear hb); (try clear hb2); (try clear hk); (try clear hi); have hcz12_0 : w11.cell? ⟨gb167, 0, none⟩ = some (.slice A0_0 l0_0.length c0_0) := (qC BK167.out 0).trans rfl; have hcz12_1 : w11.cell? ⟨gb167, 1, none⟩ = some (.slice A0_1 l0_1.length c0_1) := (qC BK167.out 1).trans rfl; have hcz12_2 : w11.cell? ⟨gb167, 2, none⟩ = some (.int .i64 a0_2) := (qC BK167.out 2).trans rfl; have hcz12_3 : w11.cell? ⟨gb167, 3, none⟩ = some (.int .i64 a0_3) := (qC BK167.out 3).trans rfl; have hfz12_0 := qB BK167.out 0; have hfz12_1 := qB BK167.out 1; have hfz12_2 := qB BK167.out 2; have hfz12_3 := qB BK167.out 3) | ((with_reducible refine qT (f := 43) rfl ?_); refine zD (some 15) rfl rfl Try.func43 (by kernel_rfl) rfl #[.agg #[.slice A0_0 l0_0.length c0_0, .slice A0_1 l0_1.length c0_1, .int .i64 a0_2, .int .i64 a0_3], .int .i64 a1, .string a2] rfl (by (try simp only [List.map_toArray, List.map_cons, List.map_nil]); first | done | rfl | (simp only [List.length_drop, List.length_take]; rfl)) ?_; (with_reducible refine (spec_l7Write.calls k _ _ l0_0 _ _ l0_1 a0_2 a0_3 a1 a2 t170 t173 t176 t177 t178 _ ?side1 ?side2 ?side3 ?side4 A6.out).mono ?_); (case side1 => repeat (first | exact (Kd.qY HR0_0.out HB.out) | (with_reducible refine Kd.qZ ?_ _) | (with_reducible refine Kd.zA ?_ _) | (with_reducible refine Kd.zC ?_))); (case side2 => exact HC0_0.out); (case side3 => repeat (first | exact (Kd.qY HR0_1.out HB.out) | (with_reducible refine Kd.qZ ?_ _) | (with_reducible refine Kd.zA ?_ _) | (with_reducible refine Kd.zC ?_))); (case side4 => exact HC0_1.out); rintro e w13 ⟨v171, v174, rfl, ho0, ho1, hb⟩; refine ⟨_, rfl, ?_⟩; have n0_ := Aside0.mk (Kd.zG ho0 (qM (by repeat (first | (with_reducible first | exact HB.out | apply qH | apply qA | apply qG | refine qF ?_ GE167.out | refine qF ?_ GE168.out) | exact HB.out)))); have n1_ := Aside0.mk (Kd.zG ho1 (qM (by repeat (first | (with_reducible first | exact HB.out | apply qH | apply qA | apply qG | refine qF ?_ GE167.out | refine qF ?_ GE168.out) | exact HB.out)))); have n2_ := Aside0.mk (qL (g := gb167) (o := .cells #[.slice A0_0 l0_0.length c0_0, .slice A0_1 l0_1.length c0_1, .int .i64 a0_2, .int .i64 a0_3] 26 (0, 0)) (by (with_reducible repeat (first | refine qE ?_ _ | refine qI ?_ | refine qD ?_ _)); exact BK167.out) hb); have n3_ := Aside0.mk (qL (g := gb168) (o := .cells #[.slice none 0 0, .slice none 0 0, .int .i64 0, .int .i64 0] 26 (0, 0)) (by (with_reducible repeat (first | refine qE ?_ _ | refine qI ?_ | refine qD ?_ _)); exact BK168.out) hb); have n4_ := Aside0.mk (qO (by repeat (first | (with_reducible first | exact HB.out | apply qH | apply qA | apply qG | refine qF ?_ GE167.out | refine qF ?_ GE168.out) | exact HB.out)) hb); clear BK167; clear BK168; clear HB; have HO172 := n0_; have HO175 := n1_; have BK167 := n2_; have BK168 := n3_; have HB := n4_; clear n0_ n1_ n2_ n3_ n4_; (try clear hb); (try clear hb2); (try clear hk); (try clear hi); (try clear ho0); (try clear ho1); obtain ⟨Ao14, co14, eo14⟩ := Kd.zE HO172.out; subst eo14; have hcz15_0 : w13.cell? ⟨gb168, 0, none⟩ = some (.slice none 0 0) := (qC BK168.out 0).trans rfl; have hcz15_1 : w13.cell? ⟨gb168, 1, none⟩ = some (.slice none 0 0) := (qC BK168.out 1).trans rfl; have hcz15_2 : w13.cell? ⟨gb168, 2, none⟩ = some (.int .i64 0) := (qC BK168.out 2).trans rfl; have hcz15_3 : w13.cell? ⟨gb168, 3, none⟩ = some (.int .i64 0) := (qC BK168.out 3).trans rfl; have hfz15_0 := qB BK168.out 0; have hfz15_1 := qB BK168.out 1; have hfz15_2 := qB BK168.out 2; have hfz15_3 := qB BK168.out 3; obtain ⟨Ao16, co16, eo16⟩ := Kd.zE HO175.out; subst eo16))
    refine bodyPost_ret (xA rfl _ _ gb168 26 #[.slice Ao14 t170.length co14, .slice Ao16 t173.length co16, .int .i64 t176, .int .i64 t177] (0, 0) _ rfl (by (with_reducible repeat (first | refine qE ?_ _ | refine qI ?_ | refine qD ?_ _)); refine qU (cs := #[.slice Ao14 t170.length co14, .slice Ao16 t173.length co16, .int .i64 t176, .int .i64 0]) ?_ 3 _ rfl; (with_reducible repeat (first | refine qE ?_ _ | refine qI ?_ | refine qD ?_ _)); refine qU (cs := #[.slice Ao14 t170.length co14, .slice Ao16 t173.length co16, .int .i64 0, .int .i64 0]) ?_ 2 _ rfl; (with_reducible repeat (first | refine qE ?_ _ | refine qI ?_ | refine qD ?_ _)); refine qU (cs := #[.slice Ao14 t170.length co14, .slice none 0 0, .int .i64 0, .int .i64 0]) ?_ 1 _ rfl; (with_reducible repeat (first | refine qE ?_ _ | refine qI ?_ | refine qD ?_ _)); refine qU (cs := #[.slice none 0 0, .slice none 0 0, .int .i64 0, .int .i64 0]) ?_ 0 _ rfl; (with_reducible repeat (first | refine qE ?_ _ | refine qI ?_ | refine qD ?_ _)); exact BK168.out) Try.underlying26 rfl (by kernel_rfl)) rfl ?_
    exact ⟨_, _, by first | rfl | (simp [errW_none, errW_some] <;> rfl) | (simp [*, errW_none, errW_some] <;> rfl), by (with_reducible repeat (first | apply Kd.qK | apply Kd.qJ | apply Kd.qN)); exact Kd.qP (Kd.R_far (p := ⟨gb168, 3, none⟩) (Kd.R_far (p := ⟨gb168, 2, none⟩) (Kd.R_far (p := ⟨gb168, 1, none⟩) (Kd.R_far (p := ⟨gb168, 0, none⟩) (Kd.qV HO172.out BK168.out (by decide)) (fun _ hk => hk.2) (.slice Ao14 t170.length co14)) (fun _ hk => hk.2) (.slice Ao16 t173.length co16)) (fun _ hk => hk.2) (.int .i64 t176)) (fun _ hk => hk.2) (.int .i64 t177)) (fun _ hk => trivial), by (with_reducible repeat (first | apply Kd.qK | apply Kd.qJ | apply Kd.qN)); exact Kd.qP (Kd.R_far (p := ⟨gb168, 3, none⟩) (Kd.R_far (p := ⟨gb168, 2, none⟩) (Kd.R_far (p := ⟨gb168, 1, none⟩) (Kd.R_far (p := ⟨gb168, 0, none⟩) (Kd.qV HO175.out BK168.out (by decide)) (fun _ hk => hk.2) (.slice Ao14 t170.length co14)) (fun _ hk => hk.2) (.slice Ao16 t173.length co16)) (fun _ hk => hk.2) (.int .i64 t176)) (fun _ hk => hk.2) (.int .i64 t177)) (fun _ hk => trivial), by repeat (first | (with_reducible first | exact HB.out | apply qH | apply qA | apply qG | refine qF ?_ GE167.out | refine qF ?_ GE168.out) | exact HB.out)⟩
  · replace c5 := Bool.eq_false_iff.mpr c5
    subst c5
    have H1 : (some (([] : List ByteArray), ([] : List (S70)), 0, 0, false)) = some (r1, r2, r3, r4, r5) := by rw [if_neg (show ¬ (false = true) by decide)] at H; exact H
    clear H
    have H := H1
    clear H1
    simp only [Option.some.injEq, Prod.mk.injEq] at H
    obtain ⟨rfl, rfl, rfl, rfl, rfl⟩ := H
    go_enter Try.func18, Try.ntmps18
    go_wp2_with (first | ((with_reducible refine qX (N := 3) rfl ?_); refine qW ?hg (N := 3) ?hd (cs := #[.slice A0_0 l0_0.length c0_0, .slice A0_1 l0_1.length c0_1, .int .i64 a0_2, .int .i64 a0_3]) (t := 26) ?hr ?_; (case hd => rfl); (case hg => rfl); (case hr => first | (go_simp; done) | (go_simp; rfl)); intro gb167 hg w17 hbox hb; have n0_ := Aside0.mk (qO (by repeat (first | (with_reducible first | exact HB.out | apply qH | apply qA | apply qG) | exact HB.out)) hb); have n1_ := Aside0.mk (hbox); have n2_ := Aside0.mk ((by rw [hg]; exact (qM (by repeat (first | (with_reducible first | exact HB.out | apply qH | apply qA | apply qG) | exact HB.out))) : w.heap.size ≤ gb167)); have n3_ := Aside0.mk ((by rw [hg]; exact (qM (by repeat (first | (with_reducible first | exact HB.out | apply qH | apply qA | apply qG) | exact HB.out))) : w.heap.size ≤ gb167)); clear HB; have HB := n0_; have BK167 := n1_; have GW167 := n2_; have GE167 := n3_; clear n0_ n1_ n2_ n3_; clear hb hbox hg) | ((with_reducible refine qX (N := 6) rfl ?_); refine qW ?hg (N := 6) ?hd (cs := #[.slice none 0 0, .slice none 0 0, .int .i64 0, .int .i64 0]) (t := 26) ?hr ?_; (case hd => rfl); (case hg => rfl); (case hr => first | (go_simp; done) | (go_simp; rfl)); intro gb168 hg w18 hbox hb; have n0_ := Aside0.mk (qL (g := gb167) (o := .cells #[.slice A0_0 l0_0.length c0_0, .slice A0_1 l0_1.length c0_1, .int .i64 a0_2, .int .i64 a0_3] 26 (0, 0)) (by (with_reducible repeat (first | refine qE ?_ _ | refine qI ?_ | refine qD ?_ _)); exact BK167.out) hb); have n1_ := Aside0.mk (qO (by repeat (first | (with_reducible first | exact HB.out | apply qH | apply qA | apply qG | refine qF ?_ GE167.out) | exact HB.out)) hb); have n2_ := Aside0.mk (hbox); have n3_ := Aside0.mk ((by rw [hg]; exact (qM (by repeat (first | (with_reducible first | exact HB.out | apply qH | apply qA | apply qG | refine qF ?_ GE167.out) | exact HB.out))) : w.heap.size ≤ gb168)); have n4_ := Aside0.mk ((by rw [hg]; exact (qM (by repeat (first | (with_reducible first | exact HB.out | apply qH | apply qA | apply qG | refine qF ?_ GE167.out) | exact HB.out))) : w.heap.size ≤ gb168)); have n5_ := Aside0.mk ((by rw [hg]; exact Nat.ne_of_lt (zB (g := gb167) (o := .cells #[.slice A0_0 l0_0.length c0_0, .slice A0_1 l0_1.length c0_1, .int .i64 a0_2, .int .i64 a0_3] 26 (0, 0)) (by (with_reducible repeat (first | refine qE ?_ _ | refine qI ?_ | refine qD ?_ _)); exact BK167.out)) : gb167 ≠ gb168)); have n6_ := Aside0.mk ((by rw [hg]; exact Nat.ne_of_gt (zB (g := gb167) (o := .cells #[.slice A0_0 l0_0.length c0_0, .slice A0_1 l0_1.length c0_1, .int .i64 a0_2, .int .i64 a0_3] 26 (0, 0)) (by (with_reducible repeat (first | refine qE ?_ _ | refine qI ?_ | refine qD ?_ _)); exact BK167.out)) : gb168 ≠ gb167)); clear BK167; clear HB; have BK167 := n0_; have HB := n1_; have BK168 := n2_; have GW168 := n3_; have GE168 := n4_; have NB167_168 := n5_; have NB168_167 := n6_; clear n0_ n1_ n2_ n3_ n4_ n5_ n6_; clear hb hbox hg; have hnb19 := NB167_168.out; have hnc19 := NB168_167.out; have hcz20_0 : w18.cell? ⟨gb167, 0, none⟩ = some (.slice A0_0 l0_0.length c0_0) := (qC BK167.out 0).trans rfl; have hcz20_1 : w18.cell? ⟨gb167, 1, none⟩ = some (.slice A0_1 l0_1.length c0_1) := (qC BK167.out 1).trans rfl; have hcz20_2 : w18.cell? ⟨gb167, 2, none⟩ = some (.int .i64 a0_2) := (qC BK167.out 2).trans rfl; have hcz20_3 : w18.cell? ⟨gb167, 3, none⟩ = some (.int .i64 a0_3) := (qC BK167.out 3).trans rfl; have hfz20_0 := qB BK167.out 0; have hfz20_1 := qB BK167.out 1; have hfz20_2 := qB BK167.out 2; have hfz20_3 := qB BK167.out 3) | ((with_reducible refine qT (f := 37) rfl ?_); refine zD (some 9) rfl rfl Try.func37 (by kernel_rfl) rfl #[.agg #[.slice A0_0 l0_0.length c0_0, .slice A0_1 l0_1.length c0_1, .int .i64 a0_2, .int .i64 a0_3]] rfl (by (try simp only [List.map_toArray, List.map_cons, List.map_nil]); first | done | rfl | (simp only [List.length_drop, List.length_take]; rfl)) ?_; (with_reducible refine (spec_l7Ok.calls k _ _ l0_0 _ _ l0_1 a0_2 a0_3 false _ ?side1 ?side2 ?side3 ?side4 A4.out).mono ?_); (case side1 => repeat (first | exact (Kd.qY HR0_0.out HB.out) | (with_reducible refine Kd.qZ ?_ _) | (with_reducible refine Kd.zA ?_ _) | (with_reducible refine Kd.zC ?_))); (case side2 => exact HC0_0.out); (case side3 => repeat (first | exact (Kd.qY HR0_1.out HB.out) | (with_reducible refine Kd.qZ ?_ _) | (with_reducible refine Kd.zA ?_ _) | (with_reducible refine Kd.zC ?_))); (case side4 => exact HC0_1.out); rintro e w21 ⟨rfl, hb⟩; refine ⟨_, rfl, ?_⟩; have n0_ := Aside0.mk (qL (g := gb167) (o := .cells #[.slice A0_0 l0_0.length c0_0, .slice A0_1 l0_1.length c0_1, .int .i64 a0_2, .int .i64 a0_3] 26 (0, 0)) (by (with_reducible repeat (first | refine qE ?_ _ | refine qI ?_ | refine qD ?_ _)); exact BK167.out) hb); have n1_ := Aside0.mk (qL (g := gb168) (o := .cells #[.slice none 0 0, .slice none 0 0, .int .i64 0, .int .i64 0] 26 (0, 0)) (by (with_reducible repeat (first | refine qE ?_ _ | refine qI ?_ | refine qD ?_ _)); exact BK168.out) hb); have n2_ := Aside0.mk (qO (by repeat (first | (with_reducible first | exact HB.out | apply qH | apply qA | apply qG | refine qF ?_ GE167.out | refine qF ?_ GE168.out) | exact HB.out)) hb); clear BK167; clear BK168; clear HB; have BK167 := n0_; have BK168 := n1_; have HB := n2_; clear n0_ n1_ n2_; (try clear hb); (try clear hb2); (try clear hk); (try clear hi); have hcz22_0 : w21.cell? ⟨gb168, 0, none⟩ = some (.slice none 0 0) := (qC BK168.out 0).trans rfl; have hcz22_1 : w21.cell? ⟨gb168, 1, none⟩ = some (.slice none 0 0) := (qC BK168.out 1).trans rfl; have hcz22_2 : w21.cell? ⟨gb168, 2, none⟩ = some (.int .i64 0) := (qC BK168.out 2).trans rfl; have hcz22_3 : w21.cell? ⟨gb168, 3, none⟩ = some (.int .i64 0) := (qC BK168.out 3).trans rfl; have hfz22_0 := qB BK168.out 0; have hfz22_1 := qB BK168.out 1; have hfz22_2 := qB BK168.out 2; have hfz22_3 := qB BK168.out 3))
    refine bodyPost_ret (xA rfl _ _ gb168 26 #[.slice none 0 0, .slice none 0 0, .int .i64 0, .int .i64 0] (0, 0) _ rfl (by (with_reducible repeat (first | refine qE ?_ _ | refine qI ?_ | refine qD ?_ _)); refine qU (cs := #[.slice none 0 0, .slice none 0 0, .int .i64 0, .int .i64 0]) ?_ 3 _ rfl; (with_reducible repeat (first | refine qE ?_ _ | refine qI ?_ | refine qD ?_ _)); refine qU (cs := #[.slice none 0 0, .slice none 0 0, .int .i64 0, .int .i64 0]) ?_ 2 _ rfl; (with_reducible repeat (first | refine qE ?_ _ | refine qI ?_ | refine qD ?_ _)); refine qU (cs := #[.slice none 0 0, .slice none 0 0, .int .i64 0, .int .i64 0]) ?_ 1 _ rfl; (with_reducible repeat (first | refine qE ?_ _ | refine qI ?_ | refine qD ?_ _)); refine qU (cs := #[.slice none 0 0, .slice none 0 0, .int .i64 0, .int .i64 0]) ?_ 0 _ rfl; (with_reducible repeat (first | refine qE ?_ _ | refine qI ?_ | refine qD ?_ _)); exact BK168.out) Try.underlying26 rfl (by kernel_rfl)) rfl ?_
    exact ⟨_, _, by first | rfl | (simp [errW_none, errW_some] <;> rfl) | (simp [*, errW_none, errW_some] <;> rfl), by first | exact Kd.R_nil _ _ _ _ _ | exact Kd.N_nil _ _ _ _ _ | exact Kd.V_nil _ _ _ _ _ | exact Kd.Q_nil _ _ _ _ _ | exact Kd.S_nil _ _ _ _ _, by first | exact Kd.R_nil _ _ _ _ _ | exact Kd.N_nil _ _ _ _ _ | exact Kd.V_nil _ _ _ _ _ | exact Kd.Q_nil _ _ _ _ _ | exact Kd.S_nil _ _ _ _ _, by repeat (first | (with_reducible first | exact HB.out | apply qH | apply qA | apply qG | refine qF ?_ GE167.out | refine qF ?_ GE168.out) | exact HB.out)⟩

/-! ### laws_szStringS: function 51 -/
def laws_szStringS.l0 : Nat → List ByteArray → Int → Int → Option (Int)
  | 0, _, _, _ => none
  | k + 1, x0, x1, x5 => if x5 < (x0.length : Int) then (if 0 ≤ x5 then (if (wrap64 (x1 - ((rdOf ByteArray.empty x0 x5).size : Int))) < 0 then (some (-1)) else (laws_szStringS.l0 k x0 (wrap64 (x1 - ((rdOf ByteArray.empty x0 x5).size : Int))) (wrap64 (x5 + 1)))) else (none)) else (some x1)
def laws_szStringS.f (k : Nat) (l0 : List ByteArray) (a1 : Int) : Option (Int) := if (wrap64 (a1 - (l0.length : Int))) < 0 then (some (-1)) else (laws_szStringS.l0 k l0 (wrap64 (a1 - (l0.length : Int))) 0)
theorem laws_szStringS.mono_l : ∀ k, (∀ y0 y1 y2, LeO (laws_szStringS.l0 k y0 y1 y2) (laws_szStringS.l0 (k + 1) y0 y1 y2))
  | 0 => fun _ _ _ r h => by simp [laws_szStringS.l0] at h
  | k + 1 => by
    have ih0 := laws_szStringS.mono_l k
    · intro y0 y1 y2
      unfold laws_szStringS.l0
      repeat' first
      | (with_reducible exact ih0 _ _ _)
      | (with_reducible exact LeO.refl _)
      | (with_reducible exact LeO.none _)
      | (with_reducible refine LeO.ite ?_ ?_)
      | (with_reducible refine LeO.bind ?_ (fun _ => ?_))
      | exact ih0 _ _ _
      | exact LeO.none _
      | refine LeO.ite ?_ ?_
      | refine LeO.bind ?_ (fun _ => ?_)
theorem laws_szStringS.mono : ∀ a0 a1 k, LeO (laws_szStringS.f k a0 a1) (laws_szStringS.f (k + 1) a0 a1) := by
  intro a0 a1 k
  have ih0 := laws_szStringS.mono_l k
  unfold laws_szStringS.f
  repeat' first
      | (with_reducible exact ih0 _ _ _)
      | (with_reducible exact LeO.refl _)
      | (with_reducible exact LeO.none _)
      | (with_reducible refine LeO.ite ?_ ?_)
      | (with_reducible refine LeO.bind ?_ (fun _ => ?_))
      | exact ih0 _ _ _
      | exact LeO.none _
      | refine LeO.ite ?_ ?_
      | refine LeO.bind ?_ (fun _ => ?_)
set_option maxHeartbeats 8000000 in
set_option maxRecDepth 100000 in
theorem laws_szStringS.calls (k : Nat) (A0 : Option Addr) (c0 : Nat) (l0 : List ByteArray) (a1 : Int) (r : Int) (w : World) (hr0 : Kd.C Kd.string w A0 l0.length l0) (hc0 : l0.length ≤ c0) (h : laws_szStringS.f k l0 a1 = some r) :
    Calls Try.prog 51 #[.slice A0 l0.length c0, .int .i64 a1] w fun e w' => e = .returned (.int .i64 r) ∧ Drawn0 w w' := by
  have HR0 := Aside0.mk hr0
  have HC0 := Aside0.mk hc0
  clear hr0 hc0
  have H : (if (wrap64 (a1 - (l0.length : Int))) < 0 then (some (-1)) else (laws_szStringS.l0 k l0 (wrap64 (a1 - (l0.length : Int))) 0)) = some r := h
  clear h
  by_cases c3 : (wrap64 (a1 - (l0.length : Int))) < 0
  · rw [if_pos c3] at H
    have c3b0 : decide ((wrap64 (a1 - (l0.length : Int))) < 0) = true := decide_eq_true c3
    clear c3
    obtain rfl := Option.some.inj H
    go_enter Try.func51, Try.ntmps51
    go_wp2
    go_ret
    exact ⟨by first | rfl | (simp; done) | (simp [*]; done), by repeat (first | exact Drawn0.refl _ | apply Drawn0.step)⟩
  · rw [if_neg c3] at H
    have c3b0 : decide ((wrap64 (a1 - (l0.length : Int))) < 0) = false := decide_eq_false c3
    clear c3
    have H' := Aside0.mk H
    clear H
    go_enter Try.func51, Try.ntmps51
    go_wp2
    go_loopg [1, 5] k (fun kq v1 v5 w' => ∃ (x1_1 : Int) (x5_1 : Int), v1 = .int .i64 x1_1 ∧ v5 = .int .i64 x5_1 ∧ Aside0 (laws_szStringS.l0 kq l0 x1_1 x5_1 = some r) ∧ Aside0 (kq ≤ k) ∧ Drawn0 w w')
    case atStart => exact ⟨(wrap64 (a1 - (l0.length : Int))), (0), (by first | rfl | (simp; done) | (simp [*]; done)), (by first | rfl | (simp; done) | (simp [*]; done)), H', ⟨Nat.le_refl _⟩, by repeat (first | exact Drawn0.refl _ | apply Drawn0.step)⟩
    case round =>
      clear H'
      try clear p2
      try clear c3
      try clear c3b0
      obtain ⟨x1_1, x5_1, rfl, rfl, HA, HK1, ⟨m1, rfl⟩⟩ := hrel
      cases gk with
      | zero => exact absurd HA.out (by simp [laws_szStringS.l0])
      | succ k1 =>
        have H := HA.out
        clear HA
        simp only [laws_szStringS.l0] at H
        by_cases c4 : x5_1 < (l0.length : Int)
        · rw [if_pos c4] at H
          have c4b0 : decide (x5_1 < (l0.length : Int)) = true := decide_eq_true c4
          clear c4
          by_cases c5 : 0 ≤ x5_1
          · rw [if_pos c5] at H
            have c5b0 : decide (0 ≤ x5_1) = true := decide_eq_true c5
            clear c5
            by_cases c6 : (wrap64 (x1_1 - ((rdOf ByteArray.empty l0 x5_1).size : Int))) < 0
            · rw [if_pos c6] at H
              have c6b0 : decide ((wrap64 (x1_1 - ((rdOf ByteArray.empty l0 x5_1).size : Int))) < 0) = true := decide_eq_true c6
              clear c6
              obtain rfl := Option.some.inj H
              have p179 : 0 ≤ (x5_1 : Int) := of_decide_eq_true (by first | (with_reducible assumption) | assumption)
              have q179 : x5_1 < (l0.length : Int) := of_decide_eq_true (by first | (with_reducible assumption) | assumption)
              obtain ⟨ad179, e179, hx179_0⟩ := Kd.zN HR0.out x5_1 p179 q179
              cases e179
              replace p179 := eq_true p179
              replace q179 := eq_true q179
              go_wp2
              go_ret
              exact ⟨by first | rfl | (simp; done) | (simp [*]; done), by repeat (first | exact Drawn0.refl _ | apply Drawn0.step)⟩
            · rw [if_neg c6] at H
              have c6b0 : decide ((wrap64 (x1_1 - ((rdOf ByteArray.empty l0 x5_1).size : Int))) < 0) = false := decide_eq_false c6
              clear c6
              have H' := Aside0.mk H
              clear H
              have p179 : 0 ≤ (x5_1 : Int) := of_decide_eq_true (by first | (with_reducible assumption) | assumption)
              have q179 : x5_1 < (l0.length : Int) := of_decide_eq_true (by first | (with_reducible assumption) | assumption)
              obtain ⟨ad179, e179, hx179_0⟩ := Kd.zN HR0.out x5_1 p179 q179
              cases e179
              replace p179 := eq_true p179
              replace q179 := eq_true q179
              go_wp2
              go_roundg k1
              case measure => have := HK1.out; omega
              case rel => exact ⟨(wrap64 (x1_1 - ((rdOf ByteArray.empty l0 x5_1).size : Int))), (wrap64 (x5_1 + 1)), (by first | rfl | (simp; done) | (simp [*]; done)), (by first | rfl | (simp; done) | (simp [*]; done)), H', ⟨by have := HK1.out; omega⟩, by repeat (first | exact Drawn0.refl _ | apply Drawn0.step)⟩
          · rw [if_neg c5] at H
            exact absurd H (by simp)
        · rw [if_neg c4] at H
          have c4b0 : decide (x5_1 < (l0.length : Int)) = false := decide_eq_false c4
          clear c4
          obtain rfl := Option.some.inj H
          go_wp2
          go_ret
          exact ⟨by first | rfl | (simp; done) | (simp [*]; done), by repeat (first | exact Drawn0.refl _ | apply Drawn0.step)⟩

/-! ### laws_szWait: function 74 -/
def laws_szWait.f (a0_0 : Int) (a0_1 : ByteArray) (a1 : Int) : Option (Int) := if (wrap64 (a1 - (a0_1.size : Int))) < 0 then (some (-1)) else (some (wrap64 (a1 - (a0_1.size : Int))))
set_option maxHeartbeats 8000000 in
set_option maxRecDepth 100000 in
theorem laws_szWait.calls (a0_0 : Int) (a0_1 : ByteArray) (a1 : Int) (r : Int) (w : World) (h : laws_szWait.f a0_0 a0_1 a1 = some r) :
    Calls Try.prog 74 #[.agg #[.int .i64 a0_0, .string a0_1], .int .i64 a1] w fun e w' => e = .returned (.int .i64 r) ∧ Below w.heap.size w w' := by
  have hu92 := Try.underlying92
  have HB := Aside0.mk (Below.refl w.heap.size w)
  have H : (if (wrap64 (a1 - (a0_1.size : Int))) < 0 then (some (-1)) else (some (wrap64 (a1 - (a0_1.size : Int))))) = some r := h
  clear h
  by_cases c3 : (wrap64 (a1 - (a0_1.size : Int))) < 0
  · rw [if_pos c3] at H
    have c3b0 : decide ((wrap64 (a1 - (a0_1.size : Int))) < 0) = true := decide_eq_true c3
    clear c3
    obtain rfl := Option.some.inj H
    go_enter Try.func74, Try.ntmps74
    go_wp2_with (first | ((with_reducible refine qX (N := 2) rfl ?_); refine qW ?hg (N := 2) ?hd (cs := #[.int .i64 a0_0, .string a0_1]) (t := 92) ?hr ?_; (case hd => rfl); (case hg => rfl); (case hr => first | (go_simp; done) | (go_simp; rfl)); intro gb180 hg w4 hbox hb; have n0_ := Aside0.mk (qO (by repeat (first | (with_reducible first | exact HB.out | apply qH | apply qA | apply qG) | exact HB.out)) hb); have n1_ := Aside0.mk (hbox); have n2_ := Aside0.mk ((by rw [hg]; exact (qM (by repeat (first | (with_reducible first | exact HB.out | apply qH | apply qA | apply qG) | exact HB.out))) : w.heap.size ≤ gb180)); have n3_ := Aside0.mk ((by rw [hg]; exact (qM (by repeat (first | (with_reducible first | exact HB.out | apply qH | apply qA | apply qG) | exact HB.out))) : w.heap.size ≤ gb180)); clear HB; have HB := n0_; have BK180 := n1_; have GW180 := n2_; have GE180 := n3_; clear n0_ n1_ n2_ n3_; clear hb hbox hg; have hcz5_0 : w4.cell? ⟨gb180, 0, none⟩ = some (.int .i64 a0_0) := (qC BK180.out 0).trans rfl; have hcz5_1 : w4.cell? ⟨gb180, 1, none⟩ = some (.string a0_1) := (qC BK180.out 1).trans rfl; have hfz5_0 := qB BK180.out 0; have hfz5_1 := qB BK180.out 1))
    go_ret
    exact ⟨by first | rfl | (simp [errW_none, errW_some] <;> rfl) | (simp [*, errW_none, errW_some] <;> rfl), by repeat (first | (with_reducible first | exact HB.out | apply qH | apply qA | apply qG | refine qF ?_ GE180.out) | exact HB.out)⟩
  · rw [if_neg c3] at H
    have c3b0 : decide ((wrap64 (a1 - (a0_1.size : Int))) < 0) = false := decide_eq_false c3
    clear c3
    obtain rfl := Option.some.inj H
    go_enter Try.func74, Try.ntmps74
    go_wp2_with (first | ((with_reducible refine qX (N := 2) rfl ?_); refine qW ?hg (N := 2) ?hd (cs := #[.int .i64 a0_0, .string a0_1]) (t := 92) ?hr ?_; (case hd => rfl); (case hg => rfl); (case hr => first | (go_simp; done) | (go_simp; rfl)); intro gb180 hg w6 hbox hb; have n0_ := Aside0.mk (qO (by repeat (first | (with_reducible first | exact HB.out | apply qH | apply qA | apply qG) | exact HB.out)) hb); have n1_ := Aside0.mk (hbox); have n2_ := Aside0.mk ((by rw [hg]; exact (qM (by repeat (first | (with_reducible first | exact HB.out | apply qH | apply qA | apply qG) | exact HB.out))) : w.heap.size ≤ gb180)); have n3_ := Aside0.mk ((by rw [hg]; exact (qM (by repeat (first | (with_reducible first | exact HB.out | apply qH | apply qA | apply qG) | exact HB.out))) : w.heap.size ≤ gb180)); clear HB; have HB := n0_; have BK180 := n1_; have GW180 := n2_; have GE180 := n3_; clear n0_ n1_ n2_ n3_; clear hb hbox hg; have hcz7_0 : w6.cell? ⟨gb180, 0, none⟩ = some (.int .i64 a0_0) := (qC BK180.out 0).trans rfl; have hcz7_1 : w6.cell? ⟨gb180, 1, none⟩ = some (.string a0_1) := (qC BK180.out 1).trans rfl; have hfz7_0 := qB BK180.out 0; have hfz7_1 := qB BK180.out 1))
    go_ret
    exact ⟨by first | rfl | (simp [errW_none, errW_some] <;> rfl) | (simp [*, errW_none, errW_some] <;> rfl), by repeat (first | (with_reducible first | exact HB.out | apply qH | apply qA | apply qG | refine qF ?_ GE180.out) | exact HB.out)⟩

/-! ### laws_szWaitS: function 52 -/
def laws_szWaitS.l0 : Nat → List (S92) → Int → Int → Option (Int)
  | 0, _, _, _ => none
  | k + 1, x0, x1, x5 => if x5 < (x0.length : Int) then (if 0 ≤ x5 then ((laws_szWait.f ((rd_T92 x0 x5).f0) ((rd_T92 x0 x5).f1) x1).bind fun t182 => (if t182 < 0 then (some (-1)) else (laws_szWaitS.l0 k x0 t182 (wrap64 (x5 + 1))))) else (none)) else (some x1)
def laws_szWaitS.f (k : Nat) (l0 : List (S92)) (a1 : Int) : Option (Int) := if (wrap64 (a1 - (l0.length : Int))) < 0 then (some (-1)) else (laws_szWaitS.l0 k l0 (wrap64 (a1 - (l0.length : Int))) 0)
theorem laws_szWaitS.mono_l : ∀ k, (∀ y0 y1 y2, LeO (laws_szWaitS.l0 k y0 y1 y2) (laws_szWaitS.l0 (k + 1) y0 y1 y2))
  | 0 => fun _ _ _ r h => by simp [laws_szWaitS.l0] at h
  | k + 1 => by
    have ih0 := laws_szWaitS.mono_l k
    · intro y0 y1 y2
      unfold laws_szWaitS.l0
      repeat' first
      | (with_reducible exact ih0 _ _ _)
      | (with_reducible exact LeO.refl _)
      | (with_reducible exact LeO.none _)
      | (with_reducible refine LeO.ite ?_ ?_)
      | (with_reducible refine LeO.bind ?_ (fun _ => ?_))
      | exact ih0 _ _ _
      | exact LeO.none _
      | refine LeO.ite ?_ ?_
      | refine LeO.bind ?_ (fun _ => ?_)
theorem laws_szWaitS.mono : ∀ a0 a1 k, LeO (laws_szWaitS.f k a0 a1) (laws_szWaitS.f (k + 1) a0 a1) := by
  intro a0 a1 k
  have ih0 := laws_szWaitS.mono_l k
  unfold laws_szWaitS.f
  repeat' first
      | (with_reducible exact ih0 _ _ _)
      | (with_reducible exact LeO.refl _)
      | (with_reducible exact LeO.none _)
      | (with_reducible refine LeO.ite ?_ ?_)
      | (with_reducible refine LeO.bind ?_ (fun _ => ?_))
      | exact ih0 _ _ _
      | exact LeO.none _
      | refine LeO.ite ?_ ?_
      | refine LeO.bind ?_ (fun _ => ?_)
set_option maxHeartbeats 8000000 in
set_option maxRecDepth 100000 in
theorem laws_szWaitS.calls (k : Nat) (A0 : Option Addr) (c0 : Nat) (l0 : List (S92)) (a1 : Int) (r : Int) (w : World) (hr0 : Kd.C k92 w A0 l0.length l0) (hc0 : l0.length ≤ c0) (h : laws_szWaitS.f k l0 a1 = some r) :
    Calls Try.prog 52 #[.slice A0 l0.length c0, .int .i64 a1] w fun e w' => e = .returned (.int .i64 r) ∧ Below w.heap.size w w' := by
  have hu92 := Try.underlying92
  have HR0 := Aside0.mk hr0
  have HC0 := Aside0.mk hc0
  clear hr0 hc0
  have HB := Aside0.mk (Below.refl w.heap.size w)
  have H : (if (wrap64 (a1 - (l0.length : Int))) < 0 then (some (-1)) else (laws_szWaitS.l0 k l0 (wrap64 (a1 - (l0.length : Int))) 0)) = some r := h
  clear h
  by_cases c3 : (wrap64 (a1 - (l0.length : Int))) < 0
  · rw [if_pos c3] at H
    have c3b0 : decide ((wrap64 (a1 - (l0.length : Int))) < 0) = true := decide_eq_true c3
    clear c3
    obtain rfl := Option.some.inj H
    go_enter Try.func52, Try.ntmps52
    go_wp2
    go_ret
    exact ⟨by first | rfl | (simp [errW_none, errW_some] <;> rfl) | (simp [*, errW_none, errW_some] <;> rfl), by repeat (first | (with_reducible first | exact HB.out | apply qH | apply qA | apply qG) | exact HB.out)⟩
  · rw [if_neg c3] at H
    have c3b0 : decide ((wrap64 (a1 - (l0.length : Int))) < 0) = false := decide_eq_false c3
    clear c3
    have H' := Aside0.mk H
    clear H
    go_enter Try.func52, Try.ntmps52
    go_wp2
    go_loopg [1, 5] k (fun kq v1 v5 w' => ∃ (x1_1 : Int) (x5_1 : Int), v1 = .int .i64 x1_1 ∧ v5 = .int .i64 x5_1 ∧ Aside0 (laws_szWaitS.l0 kq l0 x1_1 x5_1 = some r) ∧ Aside0 (kq ≤ k) ∧ Aside0 (Below w.heap.size w w'))
    case atStart => exact ⟨(wrap64 (a1 - (l0.length : Int))), (0), (by first | rfl | (simp; done) | (simp [*]; done)), (by first | rfl | (simp; done) | (simp [*]; done)), H', ⟨Nat.le_refl _⟩, ⟨by repeat (first | (with_reducible first | exact HB.out | apply qH | apply qA | apply qG) | exact HB.out)⟩⟩
    case round =>
      clear H'
      try clear p2
      try clear c3
      try clear c3b0
      obtain ⟨x1_1, x5_1, rfl, rfl, HA, HK1, HB⟩ := hrel
      cases gk with
      | zero => exact absurd HA.out (by simp [laws_szWaitS.l0])
      | succ k1 =>
        have H := HA.out
        clear HA
        simp only [laws_szWaitS.l0] at H
        by_cases c4 : x5_1 < (l0.length : Int)
        · rw [if_pos c4] at H
          have c4b0 : decide (x5_1 < (l0.length : Int)) = true := decide_eq_true c4
          clear c4
          by_cases c5 : 0 ≤ x5_1
          · rw [if_pos c5] at H
            have c5b0 : decide (0 ≤ x5_1) = true := decide_eq_true c5
            clear c5
            replace H := Option.bind_eq_some_iff.mp H
            obtain ⟨t182, A60, H⟩ := H
            replace H : (if t182 < 0 then (some (-1)) else (laws_szWaitS.l0 k1 l0 t182 (wrap64 (x5_1 + 1)))) = some r := H
            have A6 := Aside0.mk A60
            clear A60
            by_cases c7 : t182 < 0
            · rw [if_pos c7] at H
              have c7b0 : decide (t182 < 0) = true := decide_eq_true c7
              clear c7
              obtain rfl := Option.some.inj H
              have p181 : 0 ≤ (x5_1 : Int) := of_decide_eq_true (by first | (with_reducible assumption) | assumption)
              have q181 : x5_1 < (l0.length : Int) := of_decide_eq_true (by first | (with_reducible assumption) | assumption)
              obtain ⟨ad181, e181, hx181_0, hx181_1⟩ := at_T92 HR0.out x5_1 p181 q181
              cases e181
              replace hx181_0 := (HB.out.cell (World.block_lt_of_cell? w _ hx181_0)).trans hx181_0
              replace hx181_1 := (HB.out.cell (World.block_lt_of_cell? w _ hx181_1)).trans hx181_1
              replace p181 := eq_true p181
              replace q181 := eq_true q181
              go_wp2_with (first | ((with_reducible refine qT (f := 74) rfl ?_); refine zD (some 23) rfl rfl Try.func74 (by kernel_rfl) rfl #[.agg #[.int .i64 ((rd_T92 l0 x5_1).f0), .string ((rd_T92 l0 x5_1).f1)], .int .i64 x1_1] rfl (by (try simp only [List.map_toArray, List.map_cons, List.map_nil]); first | done | rfl | (simp only [List.length_drop, List.length_take]; rfl)) ?_; (with_reducible refine (laws_szWait.calls ((rd_T92 l0 x5_1).f0) ((rd_T92 l0 x5_1).f1) x1_1 t182 _ A6.out).mono ?_); rintro e w8 ⟨rfl, hb⟩; refine ⟨_, rfl, ?_⟩; have n0_ := Aside0.mk (qO (by repeat (first | (with_reducible first | exact HB.out | apply qH | apply qA | apply qG) | exact HB.out)) hb); clear HB; have HB := n0_; clear n0_; (try clear hb); (try clear hb2); (try clear hk); (try clear hi)))
              go_ret
              exact ⟨by first | rfl | (simp [errW_none, errW_some] <;> rfl) | (simp [*, errW_none, errW_some] <;> rfl), by repeat (first | (with_reducible first | exact HB.out | apply qH | apply qA | apply qG) | exact HB.out)⟩
            · rw [if_neg c7] at H
              have c7b0 : decide (t182 < 0) = false := decide_eq_false c7
              clear c7
              have H' := Aside0.mk H
              clear H
              have p181 : 0 ≤ (x5_1 : Int) := of_decide_eq_true (by first | (with_reducible assumption) | assumption)
              have q181 : x5_1 < (l0.length : Int) := of_decide_eq_true (by first | (with_reducible assumption) | assumption)
              obtain ⟨ad181, e181, hx181_0, hx181_1⟩ := at_T92 HR0.out x5_1 p181 q181
              cases e181
              replace hx181_0 := (HB.out.cell (World.block_lt_of_cell? w _ hx181_0)).trans hx181_0
              replace hx181_1 := (HB.out.cell (World.block_lt_of_cell? w _ hx181_1)).trans hx181_1
              replace p181 := eq_true p181
              replace q181 := eq_true q181
              go_wp2_with (first | ((with_reducible refine qT (f := 74) rfl ?_); refine zD (some 23) rfl rfl Try.func74 (by kernel_rfl) rfl #[.agg #[.int .i64 ((rd_T92 l0 x5_1).f0), .string ((rd_T92 l0 x5_1).f1)], .int .i64 x1_1] rfl (by (try simp only [List.map_toArray, List.map_cons, List.map_nil]); first | done | rfl | (simp only [List.length_drop, List.length_take]; rfl)) ?_; (with_reducible refine (laws_szWait.calls ((rd_T92 l0 x5_1).f0) ((rd_T92 l0 x5_1).f1) x1_1 t182 _ A6.out).mono ?_); rintro e w9 ⟨rfl, hb⟩; refine ⟨_, rfl, ?_⟩; have n0_ := Aside0.mk (qO (by repeat (first | (with_reducible first | exact HB.out | apply qH | apply qA | apply qG) | exact HB.out)) hb); clear HB; have HB := n0_; clear n0_; (try clear hb); (try clear hb2); (try clear hk); (try clear hi)))
              go_roundg k1
              case measure => have := HK1.out; omega
              case rel => exact ⟨(t182), (wrap64 (x5_1 + 1)), (by first | rfl | (simp; done) | (simp [*]; done)), (by first | rfl | (simp; done) | (simp [*]; done)), H', ⟨by have := HK1.out; omega⟩, ⟨by repeat (first | (with_reducible first | exact HB.out | apply qH | apply qA | apply qG) | exact HB.out)⟩⟩
          · rw [if_neg c5] at H
            exact absurd H (by simp)
        · rw [if_neg c4] at H
          have c4b0 : decide (x5_1 < (l0.length : Int)) = false := decide_eq_false c4
          clear c4
          obtain rfl := Option.some.inj H
          go_wp2
          go_ret
          exact ⟨by first | rfl | (simp [errW_none, errW_some] <;> rfl) | (simp [*, errW_none, errW_some] <;> rfl), by repeat (first | (with_reducible first | exact HB.out | apply qH | apply qA | apply qG) | exact HB.out)⟩

/-! ### laws_szDisk: function 23 -/
def laws_szDisk.f (k : Nat) (l0_0 : List ByteArray) (l0_1 : List (S92)) (a0_2 : Int) (a0_3 : Int) (a1 : Int) : Option (Int) := (laws_szStringS.f k l0_0 a1).bind fun t184 => (if t184 < 0 then (some (-1)) else ((laws_szWaitS.f k l0_1 t184).bind fun t185 => (if t185 < 0 then (some (-1)) else (some t185))))
theorem laws_szDisk.mono : ∀ a0 a1 a2 a3 a4 k, LeO (laws_szDisk.f k a0 a1 a2 a3 a4) (laws_szDisk.f (k + 1) a0 a1 a2 a3 a4) := by
  intro a0 a1 a2 a3 a4 k
  unfold laws_szDisk.f
  repeat' first
      | (with_reducible exact laws_szStringS.mono _ _ _)
      | (with_reducible exact laws_szWaitS.mono _ _ _)
      | (with_reducible exact LeO.refl _)
      | (with_reducible exact LeO.none _)
      | (with_reducible refine LeO.ite ?_ ?_)
      | (with_reducible refine LeO.bind ?_ (fun _ => ?_))
      | exact laws_szStringS.mono _ _ _
      | exact laws_szWaitS.mono _ _ _
      | exact LeO.none _
      | refine LeO.ite ?_ ?_
      | refine LeO.bind ?_ (fun _ => ?_)
set_option maxHeartbeats 8000000 in
set_option maxRecDepth 100000 in
theorem laws_szDisk.calls (k : Nat) (A0_0 : Option Addr) (c0_0 : Nat) (l0_0 : List ByteArray) (A0_1 : Option Addr) (c0_1 : Nat) (l0_1 : List (S92)) (a0_2 : Int) (a0_3 : Int) (a1 : Int) (r : Int) (w : World) (hr0_0 : Kd.C Kd.string w A0_0 l0_0.length l0_0) (hc0_0 : l0_0.length ≤ c0_0) (hr0_1 : Kd.C k92 w A0_1 l0_1.length l0_1) (hc0_1 : l0_1.length ≤ c0_1) (h : laws_szDisk.f k l0_0 l0_1 a0_2 a0_3 a1 = some r) :
    Calls Try.prog 23 #[.agg #[.slice A0_0 l0_0.length c0_0, .slice A0_1 l0_1.length c0_1, .int .i64 a0_2, .int .i64 a0_3], .int .i64 a1] w fun e w' => e = .returned (.int .i64 r) ∧ Below w.heap.size w w' := by
  have hu43 := Try.underlying43
  have HR0_0 := Aside0.mk hr0_0
  have HC0_0 := Aside0.mk hc0_0
  clear hr0_0 hc0_0
  have HR0_1 := Aside0.mk hr0_1
  have HC0_1 := Aside0.mk hc0_1
  clear hr0_1 hc0_1
  have HB := Aside0.mk (Below.refl w.heap.size w)
  have H : ((laws_szStringS.f k l0_0 a1).bind fun t184 => (if t184 < 0 then (some (-1)) else ((laws_szWaitS.f k l0_1 t184).bind fun t185 => (if t185 < 0 then (some (-1)) else (some t185))))) = some r := h
  clear h
  replace H := Option.bind_eq_some_iff.mp H
  obtain ⟨t184, A30, H⟩ := H
  replace H : (if t184 < 0 then (some (-1)) else ((laws_szWaitS.f k l0_1 t184).bind fun t185 => (if t185 < 0 then (some (-1)) else (some t185)))) = some r := H
  have A3 := Aside0.mk A30
  clear A30
  by_cases c4 : t184 < 0
  · rw [if_pos c4] at H
    have c4b0 : decide (t184 < 0) = true := decide_eq_true c4
    clear c4
    obtain rfl := Option.some.inj H
    go_enter Try.func23, Try.ntmps23
    go_wp2_with (first | ((with_reducible refine qX (N := 2) rfl ?_); refine qW ?hg (N := 2) ?hd (cs := #[.slice A0_0 l0_0.length c0_0, .slice A0_1 l0_1.length c0_1, .int .i64 a0_2, .int .i64 a0_3]) (t := 43) ?hr ?_; (case hd => rfl); (case hg => rfl); (case hr => first | (go_simp; done) | (go_simp; rfl)); intro gb183 hg w5 hbox hb; have n0_ := Aside0.mk (qO (by repeat (first | (with_reducible first | exact HB.out | apply qH | apply qA | apply qG) | exact HB.out)) hb); have n1_ := Aside0.mk (hbox); have n2_ := Aside0.mk ((by rw [hg]; exact (qM (by repeat (first | (with_reducible first | exact HB.out | apply qH | apply qA | apply qG) | exact HB.out))) : w.heap.size ≤ gb183)); have n3_ := Aside0.mk ((by rw [hg]; exact (qM (by repeat (first | (with_reducible first | exact HB.out | apply qH | apply qA | apply qG) | exact HB.out))) : w.heap.size ≤ gb183)); clear HB; have HB := n0_; have BK183 := n1_; have GW183 := n2_; have GE183 := n3_; clear n0_ n1_ n2_ n3_; clear hb hbox hg; have hcz6_0 : w5.cell? ⟨gb183, 0, none⟩ = some (.slice A0_0 l0_0.length c0_0) := (qC BK183.out 0).trans rfl; have hcz6_1 : w5.cell? ⟨gb183, 1, none⟩ = some (.slice A0_1 l0_1.length c0_1) := (qC BK183.out 1).trans rfl; have hcz6_2 : w5.cell? ⟨gb183, 2, none⟩ = some (.int .i64 a0_2) := (qC BK183.out 2).trans rfl; have hcz6_3 : w5.cell? ⟨gb183, 3, none⟩ = some (.int .i64 a0_3) := (qC BK183.out 3).trans rfl; have hfz6_0 := qB BK183.out 0; have hfz6_1 := qB BK183.out 1; have hfz6_2 := qB BK183.out 2; have hfz6_3 := qB BK183.out 3) | ((with_reducible refine qT (f := 51) rfl ?_); refine zD (some 8) rfl rfl Try.func51 (by kernel_rfl) rfl #[.slice A0_0 l0_0.length c0_0, .int .i64 a1] rfl (by (try simp only [List.map_toArray, List.map_cons, List.map_nil]); first | done | rfl | (simp only [List.length_drop, List.length_take]; rfl)) ?_; (with_reducible refine (laws_szStringS.calls k _ _ l0_0 a1 t184 _ ?side1 ?side2 A3.out).mono ?_); (case side1 => repeat (first | exact (Kd.qY HR0_0.out HB.out) | (with_reducible refine Kd.qZ ?_ _) | (with_reducible refine Kd.zA ?_ _) | (with_reducible refine Kd.zC ?_))); (case side2 => exact HC0_0.out); rintro e w' ⟨rfl, ⟨nd, rfl⟩⟩; refine ⟨_, rfl, ?_⟩))
    go_ret
    exact ⟨by first | rfl | (simp [errW_none, errW_some] <;> rfl) | (simp [*, errW_none, errW_some] <;> rfl), by repeat (first | (with_reducible first | exact HB.out | apply qH | apply qA | apply qG | refine qF ?_ GE183.out) | exact HB.out)⟩
  · rw [if_neg c4] at H
    have c4b0 : decide (t184 < 0) = false := decide_eq_false c4
    clear c4
    replace H := Option.bind_eq_some_iff.mp H
    obtain ⟨t185, A70, H⟩ := H
    replace H : (if t185 < 0 then (some (-1)) else (some t185)) = some r := H
    have A7 := Aside0.mk A70
    clear A70
    by_cases c8 : t185 < 0
    · rw [if_pos c8] at H
      have c8b0 : decide (t185 < 0) = true := decide_eq_true c8
      clear c8
      obtain rfl := Option.some.inj H
      go_enter Try.func23, Try.ntmps23
      go_wp2_with (first | ((with_reducible refine qX (N := 2) rfl ?_); refine qW ?hg (N := 2) ?hd (cs := #[.slice A0_0 l0_0.length c0_0, .slice A0_1 l0_1.length c0_1, .int .i64 a0_2, .int .i64 a0_3]) (t := 43) ?hr ?_; (case hd => rfl); (case hg => rfl); (case hr => first | (go_simp; done) | (go_simp; rfl)); intro gb183 hg w9 hbox hb; have n0_ := Aside0.mk (qO (by repeat (first | (with_reducible first | exact HB.out | apply qH | apply qA | apply qG) | exact HB.out)) hb); have n1_ := Aside0.mk (hbox); have n2_ := Aside0.mk ((by rw [hg]; exact (qM (by repeat (first | (with_reducible first | exact HB.out | apply qH | apply qA | apply qG) | exact HB.out))) : w.heap.size ≤ gb183)); have n3_ := Aside0.mk ((by rw [hg]; exact (qM (by repeat (first | (with_reducible first | exact HB.out | apply qH | apply qA | apply qG) | exact HB.out))) : w.heap.size ≤ gb183)); clear HB; have HB := n0_; have BK183 := n1_; have GW183 := n2_; have GE183 := n3_; clear n0_ n1_ n2_ n3_; clear hb hbox hg; have hcz10_0 : w9.cell? ⟨gb183, 0, none⟩ = some (.slice A0_0 l0_0.length c0_0) := (qC BK183.out 0).trans rfl; have hcz10_1 : w9.cell? ⟨gb183, 1, none⟩ = some (.slice A0_1 l0_1.length c0_1) := (qC BK183.out 1).trans rfl; have hcz10_2 : w9.cell? ⟨gb183, 2, none⟩ = some (.int .i64 a0_2) := (qC BK183.out 2).trans rfl; have hcz10_3 : w9.cell? ⟨gb183, 3, none⟩ = some (.int .i64 a0_3) := (qC BK183.out 3).trans rfl; have hfz10_0 := qB BK183.out 0; have hfz10_1 := qB BK183.out 1; have hfz10_2 := qB BK183.out 2; have hfz10_3 := qB BK183.out 3) | ((with_reducible refine qT (f := 51) rfl ?_); refine zD (some 8) rfl rfl Try.func51 (by kernel_rfl) rfl #[.slice A0_0 l0_0.length c0_0, .int .i64 a1] rfl (by (try simp only [List.map_toArray, List.map_cons, List.map_nil]); first | done | rfl | (simp only [List.length_drop, List.length_take]; rfl)) ?_; (with_reducible refine (laws_szStringS.calls k _ _ l0_0 a1 t184 _ ?side1 ?side2 A3.out).mono ?_); (case side1 => repeat (first | exact (Kd.qY HR0_0.out HB.out) | (with_reducible refine Kd.qZ ?_ _) | (with_reducible refine Kd.zA ?_ _) | (with_reducible refine Kd.zC ?_))); (case side2 => exact HC0_0.out); rintro e w' ⟨rfl, ⟨nd, rfl⟩⟩; refine ⟨_, rfl, ?_⟩) | ((with_reducible refine qT (f := 52) rfl ?_); refine zD (some 14) rfl rfl Try.func52 (by kernel_rfl) rfl #[.slice A0_1 l0_1.length c0_1, .int .i64 t184] rfl (by (try simp only [List.map_toArray, List.map_cons, List.map_nil]); first | done | rfl | (simp only [List.length_drop, List.length_take]; rfl)) ?_; (with_reducible refine (laws_szWaitS.calls k _ _ l0_1 t184 t185 _ ?side1 ?side2 A7.out).mono ?_); (case side1 => repeat (first | exact (Kd.qY HR0_1.out (by repeat (first | (with_reducible first | exact HB.out | apply qH | apply qA | apply qG | refine qF ?_ GE183.out) | exact HB.out))) | (with_reducible refine Kd.qZ ?_ _) | (with_reducible refine Kd.zA ?_ _) | (with_reducible refine Kd.zC ?_))); (case side2 => exact HC0_1.out); rintro e w11 ⟨rfl, hb⟩; refine ⟨_, rfl, ?_⟩; have n0_ := Aside0.mk (qL (g := gb183) (o := .cells #[.slice A0_0 l0_0.length c0_0, .slice A0_1 l0_1.length c0_1, .int .i64 a0_2, .int .i64 a0_3] 43 (0, 0)) (by (with_reducible repeat (first | refine qE ?_ _ | refine qI ?_ | refine qD ?_ _)); exact BK183.out) hb); have n1_ := Aside0.mk (qO (by repeat (first | (with_reducible first | exact HB.out | apply qH | apply qA | apply qG | refine qF ?_ GE183.out) | exact HB.out)) hb); clear BK183; clear HB; have BK183 := n0_; have HB := n1_; clear n0_ n1_; (try clear hb); (try clear hb2); (try clear hk); (try clear hi)))
      go_ret
      exact ⟨by first | rfl | (simp [errW_none, errW_some] <;> rfl) | (simp [*, errW_none, errW_some] <;> rfl), by repeat (first | (with_reducible first | exact HB.out | apply qH | apply qA | apply qG | refine qF ?_ GE183.out) | exact HB.out)⟩
    · rw [if_neg c8] at H
      have c8b0 : decide (t185 < 0) = false := decide_eq_false c8
      clear c8
      obtain rfl := Option.some.inj H
      go_enter Try.func23, Try.ntmps23
      go_wp2_with (first | ((with_reducible refine qX (N := 2) rfl ?_); refine qW ?hg (N := 2) ?hd (cs := #[.slice A0_0 l0_0.length c0_0, .slice A0_1 l0_1.length c0_1, .int .i64 a0_2, .int .i64 a0_3]) (t := 43) ?hr ?_; (case hd => rfl); (case hg => rfl); (case hr => first | (go_simp; done) | (go_simp; rfl)); intro gb183 hg w12 hbox hb; have n0_ := Aside0.mk (qO (by repeat (first | (with_reducible first | exact HB.out | apply qH | apply qA | apply qG) | exact HB.out)) hb); have n1_ := Aside0.mk (hbox); have n2_ := Aside0.mk ((by rw [hg]; exact (qM (by repeat (first | (with_reducible first | exact HB.out | apply qH | apply qA | apply qG) | exact HB.out))) : w.heap.size ≤ gb183)); have n3_ := Aside0.mk ((by rw [hg]; exact (qM (by repeat (first | (with_reducible first | exact HB.out | apply qH | apply qA | apply qG) | exact HB.out))) : w.heap.size ≤ gb183)); clear HB; have HB := n0_; have BK183 := n1_; have GW183 := n2_; have GE183 := n3_; clear n0_ n1_ n2_ n3_; clear hb hbox hg; have hcz13_0 : w12.cell? ⟨gb183, 0, none⟩ = some (.slice A0_0 l0_0.length c0_0) := (qC BK183.out 0).trans rfl; have hcz13_1 : w12.cell? ⟨gb183, 1, none⟩ = some (.slice A0_1 l0_1.length c0_1) := (qC BK183.out 1).trans rfl; have hcz13_2 : w12.cell? ⟨gb183, 2, none⟩ = some (.int .i64 a0_2) := (qC BK183.out 2).trans rfl; have hcz13_3 : w12.cell? ⟨gb183, 3, none⟩ = some (.int .i64 a0_3) := (qC BK183.out 3).trans rfl; have hfz13_0 := qB BK183.out 0; have hfz13_1 := qB BK183.out 1; have hfz13_2 := qB BK183.out 2; have hfz13_3 := qB BK183.out 3) | ((with_reducible refine qT (f := 51) rfl ?_); refine zD (some 8) rfl rfl Try.func51 (by kernel_rfl) rfl #[.slice A0_0 l0_0.length c0_0, .int .i64 a1] rfl (by (try simp only [List.map_toArray, List.map_cons, List.map_nil]); first | done | rfl | (simp only [List.length_drop, List.length_take]; rfl)) ?_; (with_reducible refine (laws_szStringS.calls k _ _ l0_0 a1 t184 _ ?side1 ?side2 A3.out).mono ?_); (case side1 => repeat (first | exact (Kd.qY HR0_0.out HB.out) | (with_reducible refine Kd.qZ ?_ _) | (with_reducible refine Kd.zA ?_ _) | (with_reducible refine Kd.zC ?_))); (case side2 => exact HC0_0.out); rintro e w' ⟨rfl, ⟨nd, rfl⟩⟩; refine ⟨_, rfl, ?_⟩) | ((with_reducible refine qT (f := 52) rfl ?_); refine zD (some 14) rfl rfl Try.func52 (by kernel_rfl) rfl #[.slice A0_1 l0_1.length c0_1, .int .i64 t184] rfl (by (try simp only [List.map_toArray, List.map_cons, List.map_nil]); first | done | rfl | (simp only [List.length_drop, List.length_take]; rfl)) ?_; (with_reducible refine (laws_szWaitS.calls k _ _ l0_1 t184 t185 _ ?side1 ?side2 A7.out).mono ?_); (case side1 => repeat (first | exact (Kd.qY HR0_1.out (by repeat (first | (with_reducible first | exact HB.out | apply qH | apply qA | apply qG | refine qF ?_ GE183.out) | exact HB.out))) | (with_reducible refine Kd.qZ ?_ _) | (with_reducible refine Kd.zA ?_ _) | (with_reducible refine Kd.zC ?_))); (case side2 => exact HC0_1.out); rintro e w14 ⟨rfl, hb⟩; refine ⟨_, rfl, ?_⟩; have n0_ := Aside0.mk (qL (g := gb183) (o := .cells #[.slice A0_0 l0_0.length c0_0, .slice A0_1 l0_1.length c0_1, .int .i64 a0_2, .int .i64 a0_3] 43 (0, 0)) (by (with_reducible repeat (first | refine qE ?_ _ | refine qI ?_ | refine qD ?_ _)); exact BK183.out) hb); have n1_ := Aside0.mk (qO (by repeat (first | (with_reducible first | exact HB.out | apply qH | apply qA | apply qG | refine qF ?_ GE183.out) | exact HB.out)) hb); clear BK183; clear HB; have BK183 := n0_; have HB := n1_; clear n0_ n1_; (try clear hb); (try clear hb2); (try clear hk); (try clear hi)))
      go_ret
      exact ⟨by first | rfl | (simp [errW_none, errW_some] <;> rfl) | (simp [*, errW_none, errW_some] <;> rfl), by repeat (first | (with_reducible first | exact HB.out | apply qH | apply qA | apply qG | refine qF ?_ GE183.out) | exact HB.out)⟩

/-! ### laws_toStringS: function 53 -/
def laws_toStringS.l0 : Nat → List ByteArray → List ByteArray → Int → Option (List ByteArray)
  | 0, _, _, _ => none
  | k + 1, x0, x3, x4 => if x4 < (x0.length : Int) then (if 0 ≤ x4 then (if x4 < (x3.length : Int) then (laws_toStringS.l0 k x0 (x3.set (x4 : Int).toNat (rdOf ByteArray.empty x0 x4)) (wrap64 (x4 + 1))) else (none)) else (none)) else (some x3)
def laws_toStringS.f (k : Nat) (l0 : List ByteArray) : Option (List ByteArray) := if 0 ≤ (l0.length : Int) then (if ((l0.length : Int) : Int).toNat ≤ 17592186044416 then (laws_toStringS.l0 k l0 (List.replicate ((l0.length : Int) : Int).toNat (⟨#[]⟩ : ByteArray)) 0) else (none)) else (none)
theorem laws_toStringS.mono_l : ∀ k, (∀ y0 y1 y2, LeO (laws_toStringS.l0 k y0 y1 y2) (laws_toStringS.l0 (k + 1) y0 y1 y2))
  | 0 => fun _ _ _ r h => by simp [laws_toStringS.l0] at h
  | k + 1 => by
    have ih0 := laws_toStringS.mono_l k
    · intro y0 y1 y2
      unfold laws_toStringS.l0
      repeat' first
      | (with_reducible exact ih0 _ _ _)
      | (with_reducible exact LeO.refl _)
      | (with_reducible exact LeO.none _)
      | (with_reducible refine LeO.ite ?_ ?_)
      | (with_reducible refine LeO.bind ?_ (fun _ => ?_))
      | exact ih0 _ _ _
      | exact LeO.none _
      | refine LeO.ite ?_ ?_
      | refine LeO.bind ?_ (fun _ => ?_)
theorem laws_toStringS.mono : ∀ a0 k, LeO (laws_toStringS.f k a0) (laws_toStringS.f (k + 1) a0) := by
  intro a0 k
  have ih0 := laws_toStringS.mono_l k
  unfold laws_toStringS.f
  repeat' first
      | (with_reducible exact ih0 _ _ _)
      | (with_reducible exact LeO.refl _)
      | (with_reducible exact LeO.none _)
      | (with_reducible refine LeO.ite ?_ ?_)
      | (with_reducible refine LeO.bind ?_ (fun _ => ?_))
      | exact ih0 _ _ _
      | exact LeO.none _
      | refine LeO.ite ?_ ?_
      | refine LeO.bind ?_ (fun _ => ?_)
set_option maxHeartbeats 8000000 in
set_option maxRecDepth 100000 in
theorem laws_toStringS.calls (k : Nat) (A0 : Option Addr) (c0 : Nat) (l0 : List ByteArray) (r : List ByteArray) (w : World) (hr0 : Kd.C Kd.string w A0 l0.length l0) (hc0 : l0.length ≤ c0) (h : laws_toStringS.f k l0 = some r) :
    Calls Try.prog 53 #[.slice A0 l0.length c0] w fun e w' => ∃ v0_ : Value, e = .returned (v0_) ∧ Kd.R Kd.string 9 w' w.heap.size (fun _ => True) v0_ r ∧ Below w.heap.size w w' := by
  have HR0 := Aside0.mk hr0
  have HC0 := Aside0.mk hc0
  clear hr0 hc0
  have HB := Aside0.mk (Below.refl w.heap.size w)
  have H : (if 0 ≤ (l0.length : Int) then (if ((l0.length : Int) : Int).toNat ≤ 17592186044416 then (laws_toStringS.l0 k l0 (List.replicate ((l0.length : Int) : Int).toNat (⟨#[]⟩ : ByteArray)) 0) else (none)) else (none)) = some r := h
  clear h
  by_cases c2 : 0 ≤ (l0.length : Int)
  · rw [if_pos c2] at H
    have c2b0 := eq_true c2
    have c2b1 : decide (0 ≤ (l0.length : Int)) = true := decide_eq_true c2
    clear c2
    by_cases c3 : ((l0.length : Int) : Int).toNat ≤ 17592186044416
    · rw [if_pos c3] at H
      have c3b0 := eq_true c3
      have c3b1 : decide (((l0.length : Int) : Int).toNat ≤ 17592186044416) = true := decide_eq_true c3
      clear c3
      obtain ⟨y186, hy186⟩ : ∃ y_ : List ByteArray, y_ = (List.replicate ((l0.length : Int) : Int).toNat (⟨#[]⟩ : ByteArray)) := ⟨_, rfl⟩
      replace H : (laws_toStringS.l0 k l0 y186 0) = some r := by first | (rw [hy186]; with_reducible exact H) | (have H2_ := (Option.bind_some _ _).symm.trans H; rw [hy186]; with_reducible exact H2_) | (have H2_ := (Option.bind_some _ _).symm.trans H; with_reducible exact H2_) | with_reducible exact H | (rw [hy186]; exact H) | exact H
      have Ny186 := Aside0.mk hy186
      clear hy186
      have H' := Aside0.mk H
      clear H
      go_enter Try.func53, Try.ntmps53
      go_wp2_with (first | ((with_reducible refine qX (N := 7) rfl ?_); refine Kd.R_make Kd.string _ 9 rfl (N := 7) rfl 23 _ _ rfl (l0.length : Int) rfl rfl Try.underlying23 (.string ⟨#[]⟩) 16 info9 rfl (by decide) (by omega) (⟨#[]⟩ : ByteArray) (ok := fun _ => True) (okp := fun _ => True) rfl (fun _ hk => hk) trivial (of_decide_eq_true (by first | (with_reducible assumption) | assumption)) (Nat.le_trans (Nat.mul_le_mul_right _ (of_decide_eq_true (by first | (with_reducible assumption) | assumption) : (l0.length : Int).toNat ≤ 17592186044416)) (by omega)) (Below.refl _ _) (Nat.le_refl _) ?_; intro v187 w4 ho5 hb hg_ hnew_; clear hg_ hnew_; (first | rw [← Ny186.out] at ho5 | (simp only [Int.reduceToNat] at ho5; rw [← Ny186.out] at ho5)); have n0_ := Aside0.mk (Kd.zG ho5 (qM (by repeat (first | (with_reducible first | exact HB.out | apply qH | apply qA | apply qG) | exact HB.out)))); have n1_ := Aside0.mk (qO (by repeat (first | (with_reducible first | exact HB.out | apply qH | apply qA | apply qG) | exact HB.out)) hb); clear HB; have HO188 := n0_; have HB := n1_; clear n0_ n1_; clear hb ho5))
      go_loopg [4] k (fun kq v4 w' => ∃ (x3_1 : List ByteArray) (x4_1 : Int), v4 = .int .i64 x4_1 ∧ Aside0 (laws_toStringS.l0 kq l0 x3_1 x4_1 = some r) ∧ Aside0 (kq ≤ k) ∧ Aside0 (Kd.R Kd.string 9 w' w.heap.size (fun _ => True) v187 x3_1) ∧ Aside0 (Below w.heap.size w w'))
      case atStart => exact ⟨(y186), (0), (by first | rfl | (simp; done) | (simp [*]; done)), H', ⟨Nat.le_refl _⟩, ⟨by (with_reducible repeat (first | apply Kd.qK | apply Kd.qJ | apply Kd.qN)); exact HO188.out⟩, ⟨by repeat (first | (with_reducible first | exact HB.out | apply qH | apply qA | apply qG) | exact HB.out)⟩⟩
      case round =>
        clear H'
        try clear c2
        try clear c2b0
        try clear c2b1
        try clear p2
        try clear c3
        try clear c3b0
        try clear c3b1
        try clear c5
        obtain ⟨x3_1, x4_1, rfl, HA, HK1, HO_3, HB⟩ := hrel
        cases gk with
        | zero => exact absurd HA.out (by simp [laws_toStringS.l0])
        | succ k1 =>
          have H := HA.out
          clear HA
          simp only [laws_toStringS.l0] at H
          by_cases c6 : x4_1 < (l0.length : Int)
          · rw [if_pos c6] at H
            have c6b0 : decide (x4_1 < (l0.length : Int)) = true := decide_eq_true c6
            clear c6
            by_cases c7 : 0 ≤ x4_1
            · rw [if_pos c7] at H
              have c7b0 : decide (0 ≤ x4_1) = true := decide_eq_true c7
              clear c7
              by_cases c8 : x4_1 < (x3_1.length : Int)
              · rw [if_pos c8] at H
                have c8b0 : decide (x4_1 < (x3_1.length : Int)) = true := decide_eq_true c8
                clear c8
                obtain ⟨y190, hy190⟩ : ∃ y_ : List ByteArray, y_ = (x3_1.set (x4_1 : Int).toNat (rdOf ByteArray.empty l0 x4_1)) := ⟨_, rfl⟩
                replace H : (laws_toStringS.l0 k1 l0 y190 (wrap64 (x4_1 + 1))) = some r := by first | (rw [hy190]; with_reducible exact H) | (have H2_ := (Option.bind_some _ _).symm.trans H; rw [hy190]; with_reducible exact H2_) | (have H2_ := (Option.bind_some _ _).symm.trans H; with_reducible exact H2_) | with_reducible exact H | (rw [hy190]; exact H) | exact H
                have Ny190 := Aside0.mk hy190
                clear hy190
                have H' := Aside0.mk H
                clear H
                have p189 : 0 ≤ (x4_1 : Int) := of_decide_eq_true (by first | (with_reducible assumption) | assumption)
                have q189 : x4_1 < (l0.length : Int) := of_decide_eq_true (by first | (with_reducible assumption) | assumption)
                obtain ⟨ad189, e189, hx189_0⟩ := Kd.zN HR0.out x4_1 p189 q189
                cases e189
                replace hx189_0 := (HB.out.cell (World.block_lt_of_cell? w _ hx189_0)).trans hx189_0
                replace p189 := eq_true p189
                replace q189 := eq_true q189
                have p9 : 0 ≤ (x4_1 : Int) := of_decide_eq_true (by first | (with_reducible assumption) | assumption)
                have q9 : (x4_1 : Int) < ((x3_1.length : Int) : Int) := of_decide_eq_true (by first | (with_reducible assumption) | assumption)
                obtain ⟨go9, co9, eo9, gb9, gl9, cl9, HG9⟩ := Kd.R_form HO_3.out (by omega)
                (first | cases eo9 | (injection eo9 with ea_ en_ ec_; (first | subst ea_ | (injection ea_ with ea_; subst ea_)); subst ec_; clear en_))
                have GB9 := Aside0.mk gb9
                have GG9 := Aside0.mk HG9
                clear gb9 gl9 HG9
                obtain ⟨hx9_0, hf9_0⟩ := Kd.R_celln (⟨#[]⟩ : ByteArray) HO_3.out (x4_1 : Int) p9 q9
                replace p9 := eq_true p9
                replace q9 := eq_true q9
                have HP10 := Kd.R_putg HO_3.out (x4_1 : Int) (rdOf ByteArray.empty l0 x4_1)
                go_wp2_with (first | ((with_reducible refine gate_store (t := 9) (p := 20) rfl ?_); refine xH (t := 9) (p := 20) (v := ?vo_w11) (w1 := (wr.setCell ⟨go9, (x4_1 : Int).toNat, none⟩ (.string (rdOf ByteArray.empty l0 x4_1)))) ?hg ?ho ?hn ?hr ?_; (case ho => rfl); (case hg => rfl); (case hn => rfl); (case hr => first | (go_simp; done) | (go_simp; rfl)); intro w11 hw; have hg : wr.grownBy w11 (some go9) := (by rw [hw]; exact HP10.2); have hp_ : Kd.R Kd.string 9 w11 w.heap.size (fun _ => True) (.slice (some ⟨go9, 0, none⟩) x3_1.length co9) y190 := (by rw [hw, Ny190.out]; exact HP10.1); clear HP10; have n0_ := Aside0.mk (hp_); have n1_ := Aside0.mk ((by rw [hw]; exact qF (HB.out) GB9.out : Below w.heap.size w w11)); clear HO_3; clear HB; have HO_3 := n0_; have HB := n1_; clear n0_ n1_; clear hg hw hp_))
                go_roundg k1
                case measure => have := HK1.out; omega
                case rel => exact ⟨(y190), (wrap64 (x4_1 + 1)), (by first | rfl | (simp; done) | (simp [*]; done)), H', ⟨by have := HK1.out; omega⟩, ⟨by (with_reducible repeat (first | apply Kd.qK | apply Kd.qJ | apply Kd.qN)); exact HO_3.out⟩, ⟨by repeat (first | (with_reducible first | exact HB.out | apply qH | apply qA | apply qG) | exact HB.out)⟩⟩
              · rw [if_neg c8] at H
                exact absurd H (by simp)
            · rw [if_neg c7] at H
              exact absurd H (by simp)
          · rw [if_neg c6] at H
            have c6b0 : decide (x4_1 < (l0.length : Int)) = false := decide_eq_false c6
            clear c6
            obtain rfl := Option.some.inj H
            go_wp2
            go_ret
            exact ⟨_, by first | rfl | (simp [errW_none, errW_some] <;> rfl) | (simp [*, errW_none, errW_some] <;> rfl), by (with_reducible repeat (first | apply Kd.qK | apply Kd.qJ | apply Kd.qN)); exact HO_3.out, by repeat (first | (with_reducible first | exact HB.out | apply qH | apply qA | apply qG) | exact HB.out)⟩
    · rw [if_neg c3] at H
      exact absurd H (by simp)
  · rw [if_neg c2] at H
    exact absurd H (by simp)

/-! ### laws_toWait: function 75 -/
def laws_toWait.f (a0_0 : Int) (a0_1 : ByteArray) : Option (Int × ByteArray) := some (a0_0, a0_1)
set_option maxHeartbeats 8000000 in
set_option maxRecDepth 100000 in
theorem laws_toWait.calls (a0_0 : Int) (a0_1 : ByteArray) (r1 : Int) (r2 : ByteArray) (w : World) (h : laws_toWait.f a0_0 a0_1 = some (r1, r2)) :
    Calls Try.prog 75 #[.agg #[.int .i64 a0_0, .string a0_1]] w fun e w' => e = .returned (.agg #[.int .i64 r1, .string r2]) ∧ Below w.heap.size w w' := by
  have hu92 := Try.underlying92
  have hu70 := Try.underlying70
  have HB := Aside0.mk (Below.refl w.heap.size w)
  have H : (some (a0_0, a0_1)) = some (r1, r2) := h
  clear h
  simp only [Option.some.injEq, Prod.mk.injEq] at H
  obtain ⟨rfl, rfl⟩ := H
  go_enter Try.func75, Try.ntmps75
  go_wp2_with (first | ((with_reducible refine qX (N := 1) rfl ?_); refine qW ?hg (N := 1) ?hd (cs := #[.int .i64 a0_0, .string a0_1]) (t := 92) ?hr ?_; (case hd => rfl); (case hg => rfl); (case hr => first | (go_simp; done) | (go_simp; rfl)); intro gb191 hg w2 hbox hb; have n0_ := Aside0.mk (qO (by repeat (first | (with_reducible first | exact HB.out | apply qH | apply qA | apply qG) | exact HB.out)) hb); have n1_ := Aside0.mk (hbox); have n2_ := Aside0.mk ((by rw [hg]; exact (qM (by repeat (first | (with_reducible first | exact HB.out | apply qH | apply qA | apply qG) | exact HB.out))) : w.heap.size ≤ gb191)); have n3_ := Aside0.mk ((by rw [hg]; exact (qM (by repeat (first | (with_reducible first | exact HB.out | apply qH | apply qA | apply qG) | exact HB.out))) : w.heap.size ≤ gb191)); clear HB; have HB := n0_; have BK191 := n1_; have GW191 := n2_; have GE191 := n3_; clear n0_ n1_ n2_ n3_; clear hb hbox hg) | ((with_reducible refine qX (N := 2) rfl ?_); refine qW ?hg (N := 2) ?hd (cs := #[.int .i64 0, .string (⟨#[]⟩ : ByteArray)]) (t := 70) ?hr ?_; (case hd => rfl); (case hg => rfl); (case hr => first | (go_simp; done) | (go_simp; rfl)); intro gb192 hg w3 hbox hb; have n0_ := Aside0.mk (qL (g := gb191) (o := .cells #[.int .i64 a0_0, .string a0_1] 92 (0, 0)) (by (with_reducible repeat (first | refine qE ?_ _ | refine qI ?_ | refine qD ?_ _)); exact BK191.out) hb); have n1_ := Aside0.mk (qO (by repeat (first | (with_reducible first | exact HB.out | apply qH | apply qA | apply qG | refine qF ?_ GE191.out) | exact HB.out)) hb); have n2_ := Aside0.mk (hbox); have n3_ := Aside0.mk ((by rw [hg]; exact (qM (by repeat (first | (with_reducible first | exact HB.out | apply qH | apply qA | apply qG | refine qF ?_ GE191.out) | exact HB.out))) : w.heap.size ≤ gb192)); have n4_ := Aside0.mk ((by rw [hg]; exact (qM (by repeat (first | (with_reducible first | exact HB.out | apply qH | apply qA | apply qG | refine qF ?_ GE191.out) | exact HB.out))) : w.heap.size ≤ gb192)); have n5_ := Aside0.mk ((by rw [hg]; exact Nat.ne_of_lt (zB (g := gb191) (o := .cells #[.int .i64 a0_0, .string a0_1] 92 (0, 0)) (by (with_reducible repeat (first | refine qE ?_ _ | refine qI ?_ | refine qD ?_ _)); exact BK191.out)) : gb191 ≠ gb192)); have n6_ := Aside0.mk ((by rw [hg]; exact Nat.ne_of_gt (zB (g := gb191) (o := .cells #[.int .i64 a0_0, .string a0_1] 92 (0, 0)) (by (with_reducible repeat (first | refine qE ?_ _ | refine qI ?_ | refine qD ?_ _)); exact BK191.out)) : gb192 ≠ gb191)); clear BK191; clear HB; have BK191 := n0_; have HB := n1_; have BK192 := n2_; have GW192 := n3_; have GE192 := n4_; have NB191_192 := n5_; have NB192_191 := n6_; clear n0_ n1_ n2_ n3_ n4_ n5_ n6_; clear hb hbox hg) | ((with_reducible refine qX (N := 3) rfl ?_); refine qW ?hg (N := 3) ?hd (cs := #[.int .i64 0, .string (⟨#[]⟩ : ByteArray)]) (t := 70) ?hr ?_; (case hd => rfl); (case hg => rfl); (case hr => first | (go_simp; done) | (go_simp; rfl)); intro gb193 hg w4 hbox hb; have n0_ := Aside0.mk (qL (g := gb191) (o := .cells #[.int .i64 a0_0, .string a0_1] 92 (0, 0)) (by (with_reducible repeat (first | refine qE ?_ _ | refine qI ?_ | refine qD ?_ _)); exact BK191.out) hb); have n1_ := Aside0.mk (qL (g := gb192) (o := .cells #[.int .i64 0, .string (⟨#[]⟩ : ByteArray)] 70 (0, 0)) (by (with_reducible repeat (first | refine qE ?_ _ | refine qI ?_ | refine qD ?_ _)); exact BK192.out) hb); have n2_ := Aside0.mk (qO (by repeat (first | (with_reducible first | exact HB.out | apply qH | apply qA | apply qG | refine qF ?_ GE191.out | refine qF ?_ GE192.out) | exact HB.out)) hb); have n3_ := Aside0.mk (hbox); have n4_ := Aside0.mk ((by rw [hg]; exact (qM (by repeat (first | (with_reducible first | exact HB.out | apply qH | apply qA | apply qG | refine qF ?_ GE191.out | refine qF ?_ GE192.out) | exact HB.out))) : w.heap.size ≤ gb193)); have n5_ := Aside0.mk ((by rw [hg]; exact (qM (by repeat (first | (with_reducible first | exact HB.out | apply qH | apply qA | apply qG | refine qF ?_ GE191.out | refine qF ?_ GE192.out) | exact HB.out))) : w.heap.size ≤ gb193)); have n6_ := Aside0.mk ((by rw [hg]; exact Nat.ne_of_lt (zB (g := gb191) (o := .cells #[.int .i64 a0_0, .string a0_1] 92 (0, 0)) (by (with_reducible repeat (first | refine qE ?_ _ | refine qI ?_ | refine qD ?_ _)); exact BK191.out)) : gb191 ≠ gb193)); have n7_ := Aside0.mk ((by rw [hg]; exact Nat.ne_of_gt (zB (g := gb191) (o := .cells #[.int .i64 a0_0, .string a0_1] 92 (0, 0)) (by (with_reducible repeat (first | refine qE ?_ _ | refine qI ?_ | refine qD ?_ _)); exact BK191.out)) : gb193 ≠ gb191)); have n8_ := Aside0.mk ((by rw [hg]; exact Nat.ne_of_lt (zB (g := gb192) (o := .cells #[.int .i64 0, .string (⟨#[]⟩ : ByteArray)] 70 (0, 0)) (by (with_reducible repeat (first | refine qE ?_ _ | refine qI ?_ | refine qD ?_ _)); exact BK192.out)) : gb192 ≠ gb193)); have n9_ := Aside0.mk ((by rw [hg]; exact Nat.ne_of_gt (zB (g := gb192) (o := .cells #[.int .i64 0, .string (⟨#[]⟩ : ByteArray)] 70 (0, 0)) (by (with_reducible repeat (first | refine qE ?_ _ | refine qI ?_ | refine qD ?_ _)); exact BK192.out)) : gb193 ≠ gb192)); clear BK191; clear BK192; clear HB; have BK191 := n0_; have BK192 := n1_; have HB := n2_; have BK193 := n3_; have GW193 := n4_; have GE193 := n5_; have NB191_193 := n6_; have NB193_191 := n7_; have NB192_193 := n8_; have NB193_192 := n9_; clear n0_ n1_ n2_ n3_ n4_ n5_ n6_ n7_ n8_ n9_; clear hb hbox hg; have hnb5 := NB191_192.out; have hnc5 := NB192_191.out; have hnb6 := NB191_193.out; have hnc6 := NB193_191.out; have hcz7_0 : w4.cell? ⟨gb191, 0, none⟩ = some (.int .i64 a0_0) := (qC BK191.out 0).trans rfl; have hcz7_1 : w4.cell? ⟨gb191, 1, none⟩ = some (.string a0_1) := (qC BK191.out 1).trans rfl; have hfz7_0 := qB BK191.out 0; have hfz7_1 := qB BK191.out 1; have hnb8 := NB193_192.out; have hnc8 := NB192_193.out; have hcz9_0 : w4.cell? ⟨gb193, 0, none⟩ = some (.int .i64 0) := (qC BK193.out 0).trans rfl; have hcz9_1 : w4.cell? ⟨gb193, 1, none⟩ = some (.string (⟨#[]⟩ : ByteArray)) := (qC BK193.out 1).trans rfl; have hfz9_0 := qB BK193.out 0; have hfz9_1 := qB BK193.out 1; have hcz10_0 : w4.cell? ⟨gb192, 0, none⟩ = some (.int .i64 0) := (qC BK192.out 0).trans rfl; have hcz10_1 : w4.cell? ⟨gb192, 1, none⟩ = some (.string (⟨#[]⟩ : ByteArray)) := (qC BK192.out 1).trans rfl; have hfz10_0 := qB BK192.out 0; have hfz10_1 := qB BK192.out 1))
  refine bodyPost_ret (results_cell_row rfl _ _ gb192 70 #[.int .i64 a0_0, .string a0_1] (0, 0) _ rfl (by (with_reducible repeat (first | refine qE ?_ _ | refine qI ?_ | refine qD ?_ _)); refine qU (cs := #[.int .i64 a0_0, .string (⟨#[]⟩ : ByteArray)]) ?_ 1 _ rfl; (with_reducible repeat (first | refine qE ?_ _ | refine qI ?_ | refine qD ?_ _)); refine qU (cs := #[.int .i64 0, .string (⟨#[]⟩ : ByteArray)]) ?_ 0 _ rfl; (with_reducible repeat (first | refine qE ?_ _ | refine qI ?_ | refine qD ?_ _)); refine qQ ?_ NB192_193.out _; (with_reducible repeat (first | refine qE ?_ _ | refine qI ?_ | refine qD ?_ _)); refine qQ ?_ NB192_193.out _; (with_reducible repeat (first | refine qE ?_ _ | refine qI ?_ | refine qD ?_ _)); exact BK192.out) Try.underlying70 rfl (by kernel_rfl)) rfl ?_
  exact ⟨by first | rfl | (simp [errW_none, errW_some] <;> rfl) | (simp [*, errW_none, errW_some] <;> rfl), by repeat (first | (with_reducible first | exact HB.out | apply qH | apply qA | apply qG | refine qF ?_ GE191.out | refine qF ?_ GE192.out | refine qF ?_ GE193.out) | exact HB.out)⟩

end Go.Proofs.Ytepihebkdnmppaa.Ag
