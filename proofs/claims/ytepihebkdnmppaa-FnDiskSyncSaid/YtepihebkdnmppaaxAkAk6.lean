/- Walks of the seat's functions, written by a program of this session (xprint.py) with the kit's printer: each call comes to just what its Lean function says. -/
import Derived.Test.YtepihebkdnmppaaxAkAk0
import Derived.Test.YtepihebkdnmppaaxAkAk2
import Derived.Test.YtepihebkdnmppaaxAkAk5
namespace Go.Proofs.Ytepihebkdnmppaa.Ak
open Go.RowKit Go.Proofs.YtepihebkdnmppaaV.PrintWords Go.Proofs.YtepihebkdnmppaaV.PrintLast Go.Proofs.YtepihebkdnmppaaV.PrintMore
attribute [local go_sem] max2_int min2_int max_two min_two xD xE max_four min_four   -- for this text's walks alone
attribute [local go_sem high] World.zQ
set_option linter.unusedVariables false
set_option linter.unusedSimpArgs false

/-! ### spec_l7Less: function 69 -/
def spec_l7Less.f (a0 : Int) : Option (Int) := if a0 > 0 then (some (wrap64 (a0 - 1))) else (some a0)
set_option maxHeartbeats 8000000 in
set_option maxRecDepth 100000 in
theorem spec_l7Less.calls (a0 : Int) (r : Int) (w : World) (h : spec_l7Less.f a0 = some r) :
    Calls Try.prog 69 #[.int .i64 a0] w fun e w' => e = .returned (.int .i64 r) ∧ Drawn0 w w' := by
  have H : (if a0 > 0 then (some (wrap64 (a0 - 1))) else (some a0)) = some r := h
  clear h
  by_cases c2 : a0 > 0
  · rw [if_pos c2] at H
    have c2b0 : decide (0 < a0) = true := decide_eq_true c2
    clear c2
    obtain rfl := Option.some.inj H
    go_enter Try.func69, Try.ntmps69
    go_wp2
    go_ret
    exact ⟨by first | rfl | (simp; done) | (simp [*]; done), by repeat (first | exact Drawn0.refl _ | apply Drawn0.step)⟩
  · rw [if_neg c2] at H
    have c2b0 : decide (0 < a0) = false := decide_eq_false c2
    clear c2
    obtain rfl := Option.some.inj H
    go_enter Try.func69, Try.ntmps69
    go_wp2
    go_ret
    exact ⟨by first | rfl | (simp; done) | (simp [*]; done), by repeat (first | exact Drawn0.refl _ | apply Drawn0.step)⟩

/-! ### spec_l7Write: function 43 -/
def spec_l7Write.j0 : Nat → Bool → List ByteArray → List (S70) → Int → Int → Int → ByteArray → Option (List ByteArray × (List (S70)) × Int × Int × Bool)
  | 0, _, _, _, _, _, _, _ => none
  | k + 1, x31, x161000, x161001, x161002, x161003, x163000, x163001 => if x31 = true then ((spec_l7Copy.f x161000 x161001 x161002 x161003).bind fun bt172 => (some (bt172.1, bt172.2.1, bt172.2.2.1, bt172.2.2.2, false))) else ((spec_l7Copy.f x161000 x161001 x161002 x161003).bind fun bt180 => (if bt180.2.1.length < 5864062014805 then ((spec_l7Less.f x161003).bind fun t192 => ((spec_l7Less.f x161002).bind fun t193 => (some (bt180.1, (bt180.2.1 ++ [(⟨x163000, x163001⟩ : S70)]), t193, t192, true)))) else (none)))
def spec_l7Write.f (k : Nat) (l0_0 : List ByteArray) (l0_1 : List (S70)) (a0_2 : Int) (a0_3 : Int) (a1 : Int) (a2 : ByteArray) : Option (List ByteArray × (List (S70)) × Int × Int × Bool) := if a0_3 = 0 then ((spec_l7Copy.f l0_0 l0_1 a0_2 a0_3).bind fun bt163 => (some (bt163.1, bt163.2.1, bt163.2.2.1, bt163.2.2.2, true))) else ((spec_l7Wait.f a1 a2).bind fun t171 => (if t171 = true then (if a0_2 = 0 then (spec_l7Write.j0 k true l0_0 l0_1 a0_2 a0_3 a1 a2) else (spec_l7Write.j0 k (decide ((l0_1.length : Int) ≥ 100)) l0_0 l0_1 a0_2 a0_3 a1 a2)) else (spec_l7Write.j0 k true l0_0 l0_1 a0_2 a0_3 a1 a2)))
theorem spec_l7Write.mono_l : ∀ k, (∀ y0 y1 y2 y3 y4 y5 y6, LeO (spec_l7Write.j0 k y0 y1 y2 y3 y4 y5 y6) (spec_l7Write.j0 (k + 1) y0 y1 y2 y3 y4 y5 y6))
  | 0 => fun _ _ _ _ _ _ _ r h => by simp [spec_l7Write.j0] at h
  | k + 1 => by
    have ih0 := spec_l7Write.mono_l k
    · intro y0 y1 y2 y3 y4 y5 y6
      unfold spec_l7Write.j0
      repeat' first
      | (with_reducible exact ih0 _ _ _ _ _ _ _)
      | (with_reducible exact LeO.refl _)
      | (with_reducible exact LeO.none _)
      | (with_reducible refine LeO.ite ?_ ?_)
      | (with_reducible refine LeO.bind ?_ (fun _ => ?_))
      | exact ih0 _ _ _ _ _ _ _
      | exact LeO.none _
      | refine LeO.ite ?_ ?_
      | refine LeO.bind ?_ (fun _ => ?_)
theorem spec_l7Write.mono : ∀ a0 a1 a2 a3 a4 a5 k, LeO (spec_l7Write.f k a0 a1 a2 a3 a4 a5) (spec_l7Write.f (k + 1) a0 a1 a2 a3 a4 a5) := by
  intro a0 a1 a2 a3 a4 a5 k
  have ih0 := spec_l7Write.mono_l k
  unfold spec_l7Write.f
  repeat' first
      | (with_reducible exact ih0 _ _ _ _ _ _ _)
      | (with_reducible exact LeO.refl _)
      | (with_reducible exact LeO.none _)
      | (with_reducible refine LeO.ite ?_ ?_)
      | (with_reducible refine LeO.bind ?_ (fun _ => ?_))
      | exact ih0 _ _ _ _ _ _ _
      | exact LeO.none _
      | refine LeO.ite ?_ ?_
      | refine LeO.bind ?_ (fun _ => ?_)
set_option maxHeartbeats 8000000 in
set_option maxRecDepth 100000 in
theorem spec_l7Write.calls (k : Nat) (A0_0 : Option Addr) (c0_0 : Nat) (l0_0 : List ByteArray) (A0_1 : Option Addr) (c0_1 : Nat) (l0_1 : List (S70)) (a0_2 : Int) (a0_3 : Int) (a1 : Int) (a2 : ByteArray) (r1 : List ByteArray) (r2 : List (S70)) (r3 : Int) (r4 : Int) (r5 : Bool) (w : World) (hr0_0 : Kd.C Kd.string w A0_0 l0_0.length l0_0) (hc0_0 : l0_0.length ≤ c0_0) (hr0_1 : Kd.C k70 w A0_1 l0_1.length l0_1) (hc0_1 : l0_1.length ≤ c0_1) (h : spec_l7Write.f k l0_0 l0_1 a0_2 a0_3 a1 a2 = some (r1, r2, r3, r4, r5)) :
    Calls Try.prog 43 #[.agg #[.slice A0_0 l0_0.length c0_0, .slice A0_1 l0_1.length c0_1, .int .i64 a0_2, .int .i64 a0_3], .int .i64 a1, .string a2] w fun e w' => ∃ v0_ v1_ : Value, e = .returned (.tuple #[.agg #[v0_, v1_, .int .i64 r3, .int .i64 r4], .bool r5]) ∧ Kd.R Kd.string 9 w' w.heap.size (fun _ => True) v0_ r1 ∧ Kd.R k70 70 w' w.heap.size (fun _ => True) v1_ r2 ∧ Below w.heap.size w w' := by
  have hu26 := Try.underlying26
  have hu70 := Try.underlying70
  have HR0_0 := Aside0.mk hr0_0
  have HC0_0 := Aside0.mk hc0_0
  clear hr0_0 hc0_0
  have HR0_1 := Aside0.mk hr0_1
  have HC0_1 := Aside0.mk hc0_1
  clear hr0_1 hc0_1
  have HB := Aside0.mk (Below.refl w.heap.size w)
  have H : (if a0_3 = 0 then ((spec_l7Copy.f l0_0 l0_1 a0_2 a0_3).bind fun bt163 => (some (bt163.1, bt163.2.1, bt163.2.2.1, bt163.2.2.2, true))) else ((spec_l7Wait.f a1 a2).bind fun t171 => (if t171 = true then (if a0_2 = 0 then (spec_l7Write.j0 k true l0_0 l0_1 a0_2 a0_3 a1 a2) else (spec_l7Write.j0 k (decide ((l0_1.length : Int) ≥ 100)) l0_0 l0_1 a0_2 a0_3 a1 a2)) else (spec_l7Write.j0 k true l0_0 l0_1 a0_2 a0_3 a1 a2)))) = some (r1, r2, r3, r4, r5) := h
  clear h
  by_cases c4 : a0_3 = 0
  · rw [if_pos c4] at H
    have c4b0 : (a0_3 == 0) = true := beq_iff_eq.mpr c4
    have c4b1 : (a0_3 != 0) = false := bne_eq_false_iff_eq.mpr c4
    clear c4
    replace H := Option.bind_eq_some_iff.mp H
    obtain ⟨⟨t163, t166, t169, t170⟩, A50, H⟩ := H
    replace H : (some (t163, t166, t169, t170, true)) = some (r1, r2, r3, r4, r5) := H
    have A5 := Aside0.mk A50
    clear A50
    simp only [Option.some.injEq, Prod.mk.injEq] at H
    obtain ⟨rfl, rfl, rfl, rfl, rfl⟩ := H
    go_enter Try.func43, Try.ntmps43
    go_wp2_with (first | ((with_reducible refine zB (N := 3) rfl ?_); refine qZ ?hg (N := 3) ?hd (cs := #[.slice A0_0 l0_0.length c0_0, .slice A0_1 l0_1.length c0_1, .int .i64 a0_2, .int .i64 a0_3]) (t := 26) ?hr ?_; (case hd => rfl); (case hg => rfl); (case hr => first | (go_simp; done) | (go_simp; rfl)); intro gb160 hg w6 hbox hb; have n0_ := Aside0.mk (qN (by repeat (first | (with_reducible first | exact HB.out | apply qF | apply qC | apply qE) | exact HB.out)) hb); have n1_ := Aside0.mk (hbox); have n2_ := Aside0.mk ((by rw [hg]; exact (qM (by repeat (first | (with_reducible first | exact HB.out | apply qF | apply qC | apply qE) | exact HB.out))) : w.heap.size ≤ gb160)); have n3_ := Aside0.mk ((by rw [hg]; exact (qM (by repeat (first | (with_reducible first | exact HB.out | apply qF | apply qC | apply qE) | exact HB.out))) : w.heap.size ≤ gb160)); clear HB; have HB := n0_; have BK160 := n1_; have GW160 := n2_; have GE160 := n3_; clear n0_ n1_ n2_ n3_; clear hb hbox hg) | ((with_reducible refine zB (N := 6) rfl ?_); refine qZ ?hg (N := 6) ?hd (cs := #[.slice none 0 0, .slice none 0 0, .int .i64 0, .int .i64 0]) (t := 26) ?hr ?_; (case hd => rfl); (case hg => rfl); (case hr => first | (go_simp; done) | (go_simp; rfl)); intro gb161 hg w7 hbox hb; have n0_ := Aside0.mk (qJ (g := gb160) (o := .cells #[.slice A0_0 l0_0.length c0_0, .slice A0_1 l0_1.length c0_1, .int .i64 a0_2, .int .i64 a0_3] 26 (0, 0)) (bw_ BK160.out) hb); have n1_ := Aside0.mk (qN (by repeat (first | (with_reducible first | exact HB.out | apply qF | apply qC | apply qE | refine qB ?_ GE160.out) | exact HB.out)) hb); have n2_ := Aside0.mk (hbox); have n3_ := Aside0.mk ((by rw [hg]; exact (qM (by repeat (first | (with_reducible first | exact HB.out | apply qF | apply qC | apply qE | refine qB ?_ GE160.out) | exact HB.out))) : w.heap.size ≤ gb161)); have n4_ := Aside0.mk ((by rw [hg]; exact (qM (by repeat (first | (with_reducible first | exact HB.out | apply qF | apply qC | apply qE | refine qB ?_ GE160.out) | exact HB.out))) : w.heap.size ≤ gb161)); have n5_ := Aside0.mk ((by rw [hg]; exact Nat.ne_of_lt (zE (g := gb160) (o := .cells #[.slice A0_0 l0_0.length c0_0, .slice A0_1 l0_1.length c0_1, .int .i64 a0_2, .int .i64 a0_3] 26 (0, 0)) (bw_ BK160.out)) : gb160 ≠ gb161)); have n6_ := Aside0.mk ((by rw [hg]; exact Nat.ne_of_gt (zE (g := gb160) (o := .cells #[.slice A0_0 l0_0.length c0_0, .slice A0_1 l0_1.length c0_1, .int .i64 a0_2, .int .i64 a0_3] 26 (0, 0)) (bw_ BK160.out)) : gb161 ≠ gb160)); clear BK160; clear HB; have BK160 := n0_; have HB := n1_; have BK161 := n2_; have GW161 := n3_; have GE161 := n4_; have NB160_161 := n5_; have NB161_160 := n6_; clear n0_ n1_ n2_ n3_ n4_ n5_ n6_; clear hb hbox hg) | ((with_reducible refine zB (N := 8) rfl ?_); refine qZ ?hg (N := 8) ?hd (cs := #[.int .i64 0, .string (⟨#[]⟩ : ByteArray)]) (t := 70) ?hr ?_; (case hd => rfl); (case hg => rfl); (case hr => first | (go_simp; done) | (go_simp; rfl)); intro gb162 hg w8 hbox hb; have n0_ := Aside0.mk (qJ (g := gb160) (o := .cells #[.slice A0_0 l0_0.length c0_0, .slice A0_1 l0_1.length c0_1, .int .i64 a0_2, .int .i64 a0_3] 26 (0, 0)) (bw_ BK160.out) hb); have n1_ := Aside0.mk (qJ (g := gb161) (o := .cells #[.slice none 0 0, .slice none 0 0, .int .i64 0, .int .i64 0] 26 (0, 0)) (bw_ BK161.out) hb); have n2_ := Aside0.mk (qN (by repeat (first | (with_reducible first | exact HB.out | apply qF | apply qC | apply qE | refine qB ?_ GE160.out | refine qB ?_ GE161.out) | exact HB.out)) hb); have n3_ := Aside0.mk (hbox); have n4_ := Aside0.mk ((by rw [hg]; exact (qM (by repeat (first | (with_reducible first | exact HB.out | apply qF | apply qC | apply qE | refine qB ?_ GE160.out | refine qB ?_ GE161.out) | exact HB.out))) : w.heap.size ≤ gb162)); have n5_ := Aside0.mk ((by rw [hg]; exact (qM (by repeat (first | (with_reducible first | exact HB.out | apply qF | apply qC | apply qE | refine qB ?_ GE160.out | refine qB ?_ GE161.out) | exact HB.out))) : w.heap.size ≤ gb162)); have n6_ := Aside0.mk ((by rw [hg]; exact Nat.ne_of_lt (zE (g := gb160) (o := .cells #[.slice A0_0 l0_0.length c0_0, .slice A0_1 l0_1.length c0_1, .int .i64 a0_2, .int .i64 a0_3] 26 (0, 0)) (bw_ BK160.out)) : gb160 ≠ gb162)); have n7_ := Aside0.mk ((by rw [hg]; exact Nat.ne_of_gt (zE (g := gb160) (o := .cells #[.slice A0_0 l0_0.length c0_0, .slice A0_1 l0_1.length c0_1, .int .i64 a0_2, .int .i64 a0_3] 26 (0, 0)) (bw_ BK160.out)) : gb162 ≠ gb160)); have n8_ := Aside0.mk ((by rw [hg]; exact Nat.ne_of_lt (zE (g := gb161) (o := .cells #[.slice none 0 0, .slice none 0 0, .int .i64 0, .int .i64 0] 26 (0, 0)) (bw_ BK161.out)) : gb161 ≠ gb162)); have n9_ := Aside0.mk ((by rw [hg]; exact Nat.ne_of_gt (zE (g := gb161) (o := .cells #[.slice none 0 0, .slice none 0 0, .int .i64 0, .int .i64 0] 26 (0, 0)) (bw_ BK161.out)) : gb162 ≠ gb161)); clear BK160; clear BK161; clear HB; have BK160 := n0_; have BK161 := n1_; have HB := n2_; have BK162 := n3_; have GW162 := n4_; have GE162 := n5_; have NB160_162 := n6_; have NB162_160 := n7_; have NB161_162 := n8_; have NB162_161 := n9_; clear n0_ n1_ n2_ n3_ n4_ n5_ n6_ n7_ n8_ n9_; clear hb hbox hg; have hnb9 := NB162_160.out; have hnc9 := NB160_162.out; have hnb10 := NB162_161.out; have hnc10 := NB161_162.out; have hcz11_0 : w8.cell? ⟨gb162, 0, none⟩ = some (.int .i64 0) := (qA BK162.out 0).trans rfl; have hcz11_1 : w8.cell? ⟨gb162, 1, none⟩ = some (.string (⟨#[]⟩ : ByteArray)) := (qA BK162.out 1).trans rfl; have hfz11_0 := qD BK162.out 0; have hfz11_1 := qD BK162.out 1; have hnb12 := NB160_161.out; have hnc12 := NB161_160.out; have hcz13_0 : w8.cell? ⟨gb160, 0, none⟩ = some (.slice A0_0 l0_0.length c0_0) := (qA BK160.out 0).trans rfl; have hcz13_1 : w8.cell? ⟨gb160, 1, none⟩ = some (.slice A0_1 l0_1.length c0_1) := (qA BK160.out 1).trans rfl; have hcz13_2 : w8.cell? ⟨gb160, 2, none⟩ = some (.int .i64 a0_2) := (qA BK160.out 2).trans rfl; have hcz13_3 : w8.cell? ⟨gb160, 3, none⟩ = some (.int .i64 a0_3) := (qA BK160.out 3).trans rfl; have hfz13_0 := qD BK160.out 0; have hfz13_1 := qD BK160.out 1; have hfz13_2 := qD BK160.out 2; have hfz13_3 := qD BK160.out 3) | ((with_reducible refine qT (f := 38) rfl ?_); refine zL (some 17) rfl rfl Try.func38 (by kernel_rfl) rfl #[.agg #[.slice A0_0 l0_0.length c0_0, .slice A0_1 l0_1.length c0_1, .int .i64 a0_2, .int .i64 a0_3]] rfl (by (try simp only [List.map_toArray, List.map_cons, List.map_nil]); first | done | rfl | (simp only [List.length_drop, List.length_take]; rfl)) ?_; (with_reducible refine (spec_l7Copy.calls _ _ l0_0 _ _ l0_1 a0_2 a0_3 t163 t166 t169 t170 _ ?side1 ?side2 ?side3 ?side4 A5.out).mono ?_); (case side1 => exact Kd.zI HR0_0.out (by repeat (first | (with_reducible first | exact HB.out | apply qF | apply qC | apply qE | refine qB ?_ GE160.out | refine qB ?_ GE161.out | refine qB ?_ GE162.out) | exact HB.out))); (case side2 => exact HC0_0.out); (case side3 => exact Kd.zI HR0_1.out (by repeat (first | (with_reducible first | exact HB.out | apply qF | apply qC | apply qE | refine qB ?_ GE160.out | refine qB ?_ GE161.out | refine qB ?_ GE162.out) | exact HB.out))); (case side4 => exact HC0_1.out); rintro e w14 ⟨v164, v167, rfl, ho0, ho1, hb⟩; refine ⟨_, rfl, ?_⟩; have n0_ := Aside0.mk (Kd.zJ ho0 (qM (by repeat (first | (with_reducible first | exact HB.out | apply qF | apply qC | apply qE | refine qB ?_ GE160.out | refine qB ?_ GE161.out | refine qB ?_ GE162.out) | exact HB.out)))); have n1_ := Aside0.mk (Kd.zJ (Kd.R_newB ho1 (g := gb162) (o := .cells #[.int .i64 a1, .string a2] 70 (0, 0)) (by (with_reducible repeat (first | refine qH ?_ _ | refine qI ?_ | refine qG ?_ _)); refine qP (cs := #[.int .i64 a1, .string (⟨#[]⟩ : ByteArray)]) ?_ 1 _ rfl; (with_reducible repeat (first | refine qH ?_ _ | refine qI ?_ | refine qG ?_ _)); refine qP (cs := #[.int .i64 0, .string (⟨#[]⟩ : ByteArray)]) ?_ 0 _ rfl; (with_reducible repeat (first | refine qH ?_ _ | refine qI ?_ | refine qG ?_ _)); exact BK162.out)) (qM (by repeat (first | (with_reducible first | exact HB.out | apply qF | apply qC | apply qE | refine qB ?_ GE160.out | refine qB ?_ GE161.out | refine qB ?_ GE162.out) | exact HB.out)))); have n2_ := Aside0.mk (qJ (g := gb160) (o := .cells #[.slice A0_0 l0_0.length c0_0, .slice A0_1 l0_1.length c0_1, .int .i64 a0_2, .int .i64 a0_3] 26 (0, 0)) (by (with_reducible repeat (first | refine qH ?_ _ | refine qI ?_ | refine qG ?_ _)); refine qR ?_ NB160_162.out _; (with_reducible repeat (first | refine qH ?_ _ | refine qI ?_ | refine qG ?_ _)); refine qR ?_ NB160_162.out _; (with_reducible repeat (first | refine qH ?_ _ | refine qI ?_ | refine qG ?_ _)); exact BK160.out) hb); have n3_ := Aside0.mk (qJ (g := gb161) (o := .cells #[.slice none 0 0, .slice none 0 0, .int .i64 0, .int .i64 0] 26 (0, 0)) (by (with_reducible repeat (first | refine qH ?_ _ | refine qI ?_ | refine qG ?_ _)); refine qR ?_ NB161_162.out _; (with_reducible repeat (first | refine qH ?_ _ | refine qI ?_ | refine qG ?_ _)); refine qR ?_ NB161_162.out _; (with_reducible repeat (first | refine qH ?_ _ | refine qI ?_ | refine qG ?_ _)); exact BK161.out) hb); have n4_ := Aside0.mk (qJ (g := gb162) (o := .cells #[.int .i64 a1, .string a2] 70 (0, 0)) (by (with_reducible repeat (first | refine qH ?_ _ | refine qI ?_ | refine qG ?_ _)); refine qP (cs := #[.int .i64 a1, .string (⟨#[]⟩ : ByteArray)]) ?_ 1 _ rfl; (with_reducible repeat (first | refine qH ?_ _ | refine qI ?_ | refine qG ?_ _)); refine qP (cs := #[.int .i64 0, .string (⟨#[]⟩ : ByteArray)]) ?_ 0 _ rfl; (with_reducible repeat (first | refine qH ?_ _ | refine qI ?_ | refine qG ?_ _)); exact BK162.out) hb); have n5_ := Aside0.mk (qN (by repeat (first | (with_reducible first | exact HB.out | apply qF | apply qC | apply qE | refine qB ?_ GE160.out | refine qB ?_ GE161.out | refine qB ?_ GE162.out) | exact HB.out)) hb); clear BK160; clear BK161; clear BK162; clear HB; have HO165 := n0_; have HO168 := n1_; have BK160 := n2_; have BK161 := n3_; have BK162 := n4_; have HB := n5_; clear n0_ n1_ n2_ n3_ n4_ n5_; (try clear hb); (try clear hb2); (try clear hk); (try clear hi); (try clear ho0); (try clear ho1); obtain ⟨Ao15, co15, eo15⟩ := Kd.zG HO165.out; subst eo15; have hcz16_0 : w14.cell? ⟨gb161, 0, none⟩ = some (.slice none 0 0) := (qA BK161.out 0).trans rfl; have hcz16_1 : w14.cell? ⟨gb161, 1, none⟩ = some (.slice none 0 0) := (qA BK161.out 1).trans rfl; have hcz16_2 : w14.cell? ⟨gb161, 2, none⟩ = some (.int .i64 0) := (qA BK161.out 2).trans rfl; have hcz16_3 : w14.cell? ⟨gb161, 3, none⟩ = some (.int .i64 0) := (qA BK161.out 3).trans rfl; have hfz16_0 := qD BK161.out 0; have hfz16_1 := qD BK161.out 1; have hfz16_2 := qD BK161.out 2; have hfz16_3 := qD BK161.out 3; obtain ⟨Ao17, co17, eo17⟩ := Kd.zG HO168.out; subst eo17))
    refine bodyPost_ret (results_ct rfl _ _ gb161 26 #[.slice Ao15 t163.length co15, .slice Ao17 t166.length co17, .int .i64 t169, .int .i64 t170] (0, 0) _ rfl (by (with_reducible repeat (first | refine qH ?_ _ | refine qI ?_ | refine qG ?_ _)); refine qP (cs := #[.slice Ao15 t163.length co15, .slice Ao17 t166.length co17, .int .i64 t169, .int .i64 0]) ?_ 3 _ rfl; (with_reducible repeat (first | refine qH ?_ _ | refine qI ?_ | refine qG ?_ _)); refine qP (cs := #[.slice Ao15 t163.length co15, .slice Ao17 t166.length co17, .int .i64 0, .int .i64 0]) ?_ 2 _ rfl; (with_reducible repeat (first | refine qH ?_ _ | refine qI ?_ | refine qG ?_ _)); refine qP (cs := #[.slice Ao15 t163.length co15, .slice none 0 0, .int .i64 0, .int .i64 0]) ?_ 1 _ rfl; (with_reducible repeat (first | refine qH ?_ _ | refine qI ?_ | refine qG ?_ _)); refine qP (cs := #[.slice none 0 0, .slice none 0 0, .int .i64 0, .int .i64 0]) ?_ 0 _ rfl; (with_reducible repeat (first | refine qH ?_ _ | refine qI ?_ | refine qG ?_ _)); exact BK161.out) Try.underlying26 rfl (by kernel_rfl)) rfl ?_
    exact ⟨_, _, by first | rfl | (simp [errW_none, errW_some] <;> rfl) | (simp [*, errW_none, errW_some] <;> rfl), by (with_reducible repeat (first | apply Kd.qX | apply Kd.qV | apply Kd.qW)); exact Kd.qS (Kd.R_far (p := ⟨gb161, 3, none⟩) (Kd.R_far (p := ⟨gb161, 2, none⟩) (Kd.R_far (p := ⟨gb161, 1, none⟩) (Kd.R_far (p := ⟨gb161, 0, none⟩) (Kd.qY HO165.out BK161.out (by decide)) (fun _ hk => hk.2) (.slice Ao15 t163.length co15)) (fun _ hk => hk.2) (.slice Ao17 t166.length co17)) (fun _ hk => hk.2) (.int .i64 t169)) (fun _ hk => hk.2) (.int .i64 t170)) (fun _ hk => trivial), by (with_reducible repeat (first | apply Kd.qX | apply Kd.qV | apply Kd.qW)); exact Kd.qS (Kd.R_far (p := ⟨gb161, 3, none⟩) (Kd.R_far (p := ⟨gb161, 2, none⟩) (Kd.R_far (p := ⟨gb161, 1, none⟩) (Kd.R_far (p := ⟨gb161, 0, none⟩) (Kd.qY HO168.out BK161.out (by decide)) (fun _ hk => hk.2) (.slice Ao15 t163.length co15)) (fun _ hk => hk.2) (.slice Ao17 t166.length co17)) (fun _ hk => hk.2) (.int .i64 t169)) (fun _ hk => hk.2) (.int .i64 t170)) (fun _ hk => trivial), by repeat (first | (with_reducible first | exact HB.out | apply qF | apply qC | apply qE | refine qB ?_ GE160.out | refine qB ?_ GE161.out | refine qB ?_ GE162.out) | exact HB.out)⟩
  · rw [if_neg c4] at H
    have c4b0 : (a0_3 == 0) = false := beq_eq_false_iff_ne.mpr c4
    have c4b1 : (a0_3 != 0) = true := bne_iff_ne.mpr c4
    have HC18 := Aside0.mk H
    clear H
    go_enter Try.func43, Try.ntmps43
    go_upto_region 4 with (first | ((with_reducible refine zB (N := 3) rfl ?_); refine qZ ?hg (N := 3) ?hd (cs := #[.slice A0_0 l0_0.length c0_0, .slice A0_1 l0_1.length c0_1, .int .i64 a0_2, .int .i64 a0_3]) (t := 26) ?hr ?_; (case hd => rfl); (case hg => rfl); (case hr => first | (go_simp; done) | (go_simp; rfl)); intro gb160 hg w19 hbox hb; have n0_ := Aside0.mk (qN (by repeat (first | (with_reducible first | exact HB.out | apply qF | apply qC | apply qE) | exact HB.out)) hb); have n1_ := Aside0.mk (hbox); have n2_ := Aside0.mk ((by rw [hg]; exact (qM (by repeat (first | (with_reducible first | exact HB.out | apply qF | apply qC | apply qE) | exact HB.out))) : w.heap.size ≤ gb160)); have n3_ := Aside0.mk ((by rw [hg]; exact (qM (by repeat (first | (with_reducible first | exact HB.out | apply qF | apply qC | apply qE) | exact HB.out))) : w.heap.size ≤ gb160)); clear HB; have HB := n0_; have BK160 := n1_; have GW160 := n2_; have GE160 := n3_; clear n0_ n1_ n2_ n3_; clear hb hbox hg) | ((with_reducible refine zB (N := 6) rfl ?_); refine qZ ?hg (N := 6) ?hd (cs := #[.slice none 0 0, .slice none 0 0, .int .i64 0, .int .i64 0]) (t := 26) ?hr ?_; (case hd => rfl); (case hg => rfl); (case hr => first | (go_simp; done) | (go_simp; rfl)); intro gb161 hg w20 hbox hb; have n0_ := Aside0.mk (qJ (g := gb160) (o := .cells #[.slice A0_0 l0_0.length c0_0, .slice A0_1 l0_1.length c0_1, .int .i64 a0_2, .int .i64 a0_3] 26 (0, 0)) (bw_ BK160.out) hb); have n1_ := Aside0.mk (qN (by repeat (first | (with_reducible first | exact HB.out | apply qF | apply qC | apply qE | refine qB ?_ GE160.out) | exact HB.out)) hb); have n2_ := Aside0.mk (hbox); have n3_ := Aside0.mk ((by rw [hg]; exact (qM (by repeat (first | (with_reducible first | exact HB.out | apply qF | apply qC | apply qE | refine qB ?_ GE160.out) | exact HB.out))) : w.heap.size ≤ gb161)); have n4_ := Aside0.mk ((by rw [hg]; exact (qM (by repeat (first | (with_reducible first | exact HB.out | apply qF | apply qC | apply qE | refine qB ?_ GE160.out) | exact HB.out))) : w.heap.size ≤ gb161)); have n5_ := Aside0.mk ((by rw [hg]; exact Nat.ne_of_lt (zE (g := gb160) (o := .cells #[.slice A0_0 l0_0.length c0_0, .slice A0_1 l0_1.length c0_1, .int .i64 a0_2, .int .i64 a0_3] 26 (0, 0)) (bw_ BK160.out)) : gb160 ≠ gb161)); have n6_ := Aside0.mk ((by rw [hg]; exact Nat.ne_of_gt (zE (g := gb160) (o := .cells #[.slice A0_0 l0_0.length c0_0, .slice A0_1 l0_1.length c0_1, .int .i64 a0_2, .int .i64 a0_3] 26 (0, 0)) (bw_ BK160.out)) : gb161 ≠ gb160)); clear BK160; clear HB; have BK160 := n0_; have HB := n1_; have BK161 := n2_; have GW161 := n3_; have GE161 := n4_; have NB160_161 := n5_; have NB161_160 := n6_; clear n0_ n1_ n2_ n3_ n4_ n5_ n6_; clear hb hbox hg) | ((with_reducible refine zB (N := 8) rfl ?_); refine qZ ?hg (N := 8) ?hd (cs := #[.int .i64 0, .string (⟨#[]⟩ : ByteArray)]) (t := 70) ?hr ?_; (case hd => rfl); (case hg => rfl); (case hr => first | (go_simp; done) | (go_simp; rfl)); intro gb162 hg w21 hbox hb; have n0_ := Aside0.mk (qJ (g := gb160) (o := .cells #[.slice A0_0 l0_0.length c0_0, .slice A0_1 l0_1.length c0_1, .int .i64 a0_2, .int .i64 a0_3] 26 (0, 0)) (bw_ BK160.out) hb); have n1_ := Aside0.mk (qJ (g := gb161) (o := .cells #[.slice none 0 0, .slice none 0 0, .int .i64 0, .int .i64 0] 26 (0, 0)) (bw_ BK161.out) hb); have n2_ := Aside0.mk (qN (by repeat (first | (with_reducible first | exact HB.out | apply qF | apply qC | apply qE | refine qB ?_ GE160.out | refine qB ?_ GE161.out) | exact HB.out)) hb); have n3_ := Aside0.mk (hbox); have n4_ := Aside0.mk ((by rw [hg]; exact (qM (by repeat (first | (with_reducible first | exact HB.out | apply qF | apply qC | apply qE | refine qB ?_ GE160.out | refine qB ?_ GE161.out) | exact HB.out))) : w.heap.size ≤ gb162)); have n5_ := Aside0.mk ((by rw [hg]; exact (qM (by repeat (first | (with_reducible first | exact HB.out | apply qF | apply qC | apply qE | refine qB ?_ GE160.out | refine qB ?_ GE161.out) | exact HB.out))) : w.heap.size ≤ gb162)); have n6_ := Aside0.mk ((by rw [hg]; exact Nat.ne_of_lt (zE (g := gb160) (o := .cells #[.slice A0_0 l0_0.length c0_0, .slice A0_1 l0_1.length c0_1, .int .i64 a0_2, .int .i64 a0_3] 26 (0, 0)) (bw_ BK160.out)) : gb160 ≠ gb162)); have n7_ := Aside0.mk ((by rw [hg]; exact Nat.ne_of_gt (zE (g := gb160) (o := .cells #[.slice A0_0 l0_0.length c0_0, .slice A0_1 l0_1.length c0_1, .int .i64 a0_2, .int .i64 a0_3] 26 (0, 0)) (bw_ BK160.out)) : gb162 ≠ gb160)); have n8_ := Aside0.mk ((by rw [hg]; exact Nat.ne_of_lt (zE (g := gb161) (o := .cells #[.slice none 0 0, .slice none 0 0, .int .i64 0, .int .i64 0] 26 (0, 0)) (bw_ BK161.out)) : gb161 ≠ gb162)); have n9_ := Aside0.mk ((by rw [hg]; exact Nat.ne_of_gt (zE (g := gb161) (o := .cells #[.slice none 0 0, .slice none 0 0, .int .i64 0, .int .i64 0] 26 (0, 0)) (bw_ BK161.out)) : gb162 ≠ gb161)); clear BK160; clear BK161; clear HB; have BK160 := n0_; have BK161 := n1_; have HB := n2_; have BK162 := n3_; have GW162 := n4_; have GE162 := n5_; have NB160_162 := n6_; have NB162_160 := n7_; have NB161_162 := n8_; have NB162_161 := n9_; clear n0_ n1_ n2_ n3_ n4_ n5_ n6_ n7_ n8_ n9_; clear hb hbox hg; have hnb22 := NB162_160.out; have hnc22 := NB160_162.out; have hnb23 := NB162_161.out; have hnc23 := NB161_162.out; have hcz24_0 : w21.cell? ⟨gb162, 0, none⟩ = some (.int .i64 0) := (qA BK162.out 0).trans rfl; have hcz24_1 : w21.cell? ⟨gb162, 1, none⟩ = some (.string (⟨#[]⟩ : ByteArray)) := (qA BK162.out 1).trans rfl; have hfz24_0 := qD BK162.out 0; have hfz24_1 := qD BK162.out 1; have hnb25 := NB160_161.out; have hnc25 := NB161_160.out; have hcz26_0 : w21.cell? ⟨gb160, 0, none⟩ = some (.slice A0_0 l0_0.length c0_0) := (qA BK160.out 0).trans rfl; have hcz26_1 : w21.cell? ⟨gb160, 1, none⟩ = some (.slice A0_1 l0_1.length c0_1) := (qA BK160.out 1).trans rfl; have hcz26_2 : w21.cell? ⟨gb160, 2, none⟩ = some (.int .i64 a0_2) := (qA BK160.out 2).trans rfl; have hcz26_3 : w21.cell? ⟨gb160, 3, none⟩ = some (.int .i64 a0_3) := (qA BK160.out 3).trans rfl; have hfz26_0 := qD BK160.out 0; have hfz26_1 := qD BK160.out 1; have hfz26_2 := qD BK160.out 2; have hfz26_3 := qD BK160.out 3))
    (try simp only [Act.put, List.setIfInBounds_toArray, List.set_cons_zero, List.set_cons_succ])
    go_cut [31] (fun v31 wc => ∃ (kq : Nat) (x31_17 : Bool), v31 = .bool x31_17 ∧ Aside0 (spec_l7Write.j0 kq x31_17 l0_0 l0_1 a0_2 a0_3 a1 a2 = some (r1, r2, r3, r4, r5)) ∧ Aside0 (kq ≤ k) ∧ Aside0 (wc.heap[gb160]? = some (.cells #[(.slice A0_0 l0_0.length c0_0), (.slice A0_1 l0_1.length c0_1), .int .i64 a0_2, .int .i64 a0_3] 26 (0, 0))) ∧ Aside0 (wc.heap[gb161]? = some (.cells #[(.slice none 0 0), (.slice none 0 0), .int .i64 0, .int .i64 0] 26 (0, 0))) ∧ Aside0 (wc.heap[gb162]? = some (.cells #[.int .i64 a1, .string a2] 70 (0, 0))) ∧ Aside0 (Below w.heap.size w wc))
    case first =>
      have H := HC18.out
      clear HC18
      replace H := Option.bind_eq_some_iff.mp H
      obtain ⟨t171, A270, H⟩ := H
      replace H : (if t171 = true then (if a0_2 = 0 then (spec_l7Write.j0 k true l0_0 l0_1 a0_2 a0_3 a1 a2) else (spec_l7Write.j0 k (decide ((l0_1.length : Int) ≥ 100)) l0_0 l0_1 a0_2 a0_3 a1 a2)) else (spec_l7Write.j0 k true l0_0 l0_1 a0_2 a0_3 a1 a2)) = some (r1, r2, r3, r4, r5) := H
      have A27 := Aside0.mk A270
      clear A270
      by_cases c28 : t171 = true
      · subst c28
        have H1 : (if a0_2 = 0 then (spec_l7Write.j0 k true l0_0 l0_1 a0_2 a0_3 a1 a2) else (spec_l7Write.j0 k (decide ((l0_1.length : Int) ≥ 100)) l0_0 l0_1 a0_2 a0_3 a1 a2)) = some (r1, r2, r3, r4, r5) := by first | rfl | (rw [if_pos rfl] at H; exact H)
        clear H
        have H := H1
        clear H1
        by_cases c29 : a0_2 = 0
        · rw [if_pos c29] at H
          have c29b0 : (a0_2 == 0) = true := beq_iff_eq.mpr c29
          have c29b1 : (a0_2 != 0) = false := bne_eq_false_iff_eq.mpr c29
          clear c29
          (first | rw [c29b0] | (simp only [i64_w, i32_w]; rw [c29b0]) | skip)
          have H' := Aside0.mk H
          clear H
          have hnb30 := NB162_160.out
          have hnc30 := NB160_162.out
          have hnb31 := NB162_161.out
          have hnc31 := NB161_162.out
          have hcz32_0 : w21.cell? ⟨gb162, 0, none⟩ = some (.int .i64 0) := (qA BK162.out 0).trans rfl
          have hcz32_1 : w21.cell? ⟨gb162, 1, none⟩ = some (.string (⟨#[]⟩ : ByteArray)) := (qA BK162.out 1).trans rfl
          have hfz32_0 := qD BK162.out 0
          have hfz32_1 := qD BK162.out 1
          go_wp2_with (first | ((with_reducible refine qT (f := 67) rfl ?_); refine zL (some 19) rfl rfl Try.func67 (by kernel_rfl) rfl #[.agg #[.int .i64 a1, .string a2]] rfl (by (try simp only [List.map_toArray, List.map_cons, List.map_nil]); first | done | rfl | (simp only [List.length_drop, List.length_take]; rfl)) ?_; (with_reducible refine (spec_l7Wait.calls a1 a2 true _ A27.out).mono ?_); rintro e w33 ⟨rfl, hb⟩; refine ⟨_, rfl, ?_⟩; have n0_ := Aside0.mk (qJ (g := gb160) (o := .cells #[.slice A0_0 l0_0.length c0_0, .slice A0_1 l0_1.length c0_1, .int .i64 a0_2, .int .i64 a0_3] 26 (0, 0)) (by (with_reducible repeat (first | refine qH ?_ _ | refine qI ?_ | refine qG ?_ _)); refine qR ?_ NB160_162.out _; (with_reducible repeat (first | refine qH ?_ _ | refine qI ?_ | refine qG ?_ _)); refine qR ?_ NB160_162.out _; (with_reducible repeat (first | refine qH ?_ _ | refine qI ?_ | refine qG ?_ _)); exact BK160.out) hb); have n1_ := Aside0.mk (qJ (g := gb161) (o := .cells #[.slice none 0 0, .slice none 0 0, .int .i64 0, .int .i64 0] 26 (0, 0)) (by (with_reducible repeat (first | refine qH ?_ _ | refine qI ?_ | refine qG ?_ _)); refine qR ?_ NB161_162.out _; (with_reducible repeat (first | refine qH ?_ _ | refine qI ?_ | refine qG ?_ _)); refine qR ?_ NB161_162.out _; (with_reducible repeat (first | refine qH ?_ _ | refine qI ?_ | refine qG ?_ _)); exact BK161.out) hb); have n2_ := Aside0.mk (qJ (g := gb162) (o := .cells #[.int .i64 a1, .string a2] 70 (0, 0)) (by (with_reducible repeat (first | refine qH ?_ _ | refine qI ?_ | refine qG ?_ _)); refine qP (cs := #[.int .i64 a1, .string (⟨#[]⟩ : ByteArray)]) ?_ 1 _ rfl; (with_reducible repeat (first | refine qH ?_ _ | refine qI ?_ | refine qG ?_ _)); refine qP (cs := #[.int .i64 0, .string (⟨#[]⟩ : ByteArray)]) ?_ 0 _ rfl; (with_reducible repeat (first | refine qH ?_ _ | refine qI ?_ | refine qG ?_ _)); exact BK162.out) hb); have n3_ := Aside0.mk (qN (by repeat (first | (with_reducible first | exact HB.out | apply qF | apply qC | apply qE | refine qB ?_ GE160.out | refine qB ?_ GE161.out | refine qB ?_ GE162.out) | exact HB.out)) hb); clear BK160; clear BK161; clear BK162; clear HB; have BK160 := n0_; have BK161 := n1_; have BK162 := n2_; have HB := n3_; clear n0_ n1_ n2_ n3_; (try clear hb); (try clear hb2); (try clear hk); (try clear hi); have hnb34 := NB160_161.out; have hnc34 := NB161_160.out; have hcz35_0 : w33.cell? ⟨gb160, 0, none⟩ = some (.slice A0_0 l0_0.length c0_0) := (qA BK160.out 0).trans rfl; have hcz35_1 : w33.cell? ⟨gb160, 1, none⟩ = some (.slice A0_1 l0_1.length c0_1) := (qA BK160.out 1).trans rfl; have hcz35_2 : w33.cell? ⟨gb160, 2, none⟩ = some (.int .i64 a0_2) := (qA BK160.out 2).trans rfl; have hcz35_3 : w33.cell? ⟨gb160, 3, none⟩ = some (.int .i64 a0_3) := (qA BK160.out 3).trans rfl; have hfz35_0 := qD BK160.out 0; have hfz35_1 := qD BK160.out 1; have hfz35_2 := qD BK160.out 2; have hfz35_3 := qD BK160.out 3))
          go_meet
          case rel => exact ⟨_, (true), (by first | rfl | (simp; done) | (simp [*]; done)), H', ⟨by first | omega | exact Nat.le_refl _⟩, ⟨by (with_reducible repeat (first | refine qH ?_ _ | refine qI ?_ | refine qG ?_ _)); exact BK160.out⟩, ⟨by (with_reducible repeat (first | refine qH ?_ _ | refine qI ?_ | refine qG ?_ _)); exact BK161.out⟩, ⟨by (with_reducible repeat (first | refine qH ?_ _ | refine qI ?_ | refine qG ?_ _)); exact BK162.out⟩, ⟨by repeat (first | (with_reducible first | exact HB.out | apply qF | apply qC | apply qE | refine qB ?_ GE160.out | refine qB ?_ GE161.out | refine qB ?_ GE162.out) | exact HB.out)⟩⟩
        · rw [if_neg c29] at H
          have c29b0 : (a0_2 == 0) = false := beq_eq_false_iff_ne.mpr c29
          have c29b1 : (a0_2 != 0) = true := bne_iff_ne.mpr c29
          (first | rw [c29b0] | (simp only [i64_w, i32_w]; rw [c29b0]) | skip)
          have H' := Aside0.mk H
          clear H
          have hnb36 := NB162_160.out
          have hnc36 := NB160_162.out
          have hnb37 := NB162_161.out
          have hnc37 := NB161_162.out
          have hcz38_0 : w21.cell? ⟨gb162, 0, none⟩ = some (.int .i64 0) := (qA BK162.out 0).trans rfl
          have hcz38_1 : w21.cell? ⟨gb162, 1, none⟩ = some (.string (⟨#[]⟩ : ByteArray)) := (qA BK162.out 1).trans rfl
          have hfz38_0 := qD BK162.out 0
          have hfz38_1 := qD BK162.out 1
          go_wp2_with (first | ((with_reducible refine qT (f := 67) rfl ?_); refine zL (some 19) rfl rfl Try.func67 (by kernel_rfl) rfl #[.agg #[.int .i64 a1, .string a2]] rfl (by (try simp only [List.map_toArray, List.map_cons, List.map_nil]); first | done | rfl | (simp only [List.length_drop, List.length_take]; rfl)) ?_; (with_reducible refine (spec_l7Wait.calls a1 a2 true _ A27.out).mono ?_); rintro e w39 ⟨rfl, hb⟩; refine ⟨_, rfl, ?_⟩; have n0_ := Aside0.mk (qJ (g := gb160) (o := .cells #[.slice A0_0 l0_0.length c0_0, .slice A0_1 l0_1.length c0_1, .int .i64 a0_2, .int .i64 a0_3] 26 (0, 0)) (by (with_reducible repeat (first | refine qH ?_ _ | refine qI ?_ | refine qG ?_ _)); refine qR ?_ NB160_162.out _; (with_reducible repeat (first | refine qH ?_ _ | refine qI ?_ | refine qG ?_ _)); refine qR ?_ NB160_162.out _; (with_reducible repeat (first | refine qH ?_ _ | refine qI ?_ | refine qG ?_ _)); exact BK160.out) hb); have n1_ := Aside0.mk (qJ (g := gb161) (o := .cells #[.slice none 0 0, .slice none 0 0, .int .i64 0, .int .i64 0] 26 (0, 0)) (by (with_reducible repeat (first | refine qH ?_ _ | refine qI ?_ | refine qG ?_ _)); refine qR ?_ NB161_162.out _; (with_reducible repeat (first | refine qH ?_ _ | refine qI ?_ | refine qG ?_ _)); refine qR ?_ NB161_162.out _; (with_reducible repeat (first | refine qH ?_ _ | refine qI ?_ | refine qG ?_ _)); exact BK161.out) hb); have n2_ := Aside0.mk (qJ (g := gb162) (o := .cells #[.int .i64 a1, .string a2] 70 (0, 0)) (by (with_reducible repeat (first | refine qH ?_ _ | refine qI ?_ | refine qG ?_ _)); refine qP (cs := #[.int .i64 a1, .string (⟨#[]⟩ : ByteArray)]) ?_ 1 _ rfl; (with_reducible repeat (first | refine qH ?_ _ | refine qI ?_ | refine qG ?_ _)); refine qP (cs := #[.int .i64 0, .string (⟨#[]⟩ : ByteArray)]) ?_ 0 _ rfl; (with_reducible repeat (first | refine qH ?_ _ | refine qI ?_ | refine qG ?_ _)); exact BK162.out) hb); have n3_ := Aside0.mk (qN (by repeat (first | (with_reducible first | exact HB.out | apply qF | apply qC | apply qE | refine qB ?_ GE160.out | refine qB ?_ GE161.out | refine qB ?_ GE162.out) | exact HB.out)) hb); clear BK160; clear BK161; clear BK162; clear HB; have BK160 := n0_; have BK161 := n1_; have BK162 := n2_; have HB := n3_; clear n0_ n1_ n2_ n3_; (try clear hb); (try clear hb2); (try clear hk); (try clear hi); have hnb40 := NB160_161.out; have hnc40 := NB161_160.out; have hcz41_0 : w39.cell? ⟨gb160, 0, none⟩ = some (.slice A0_0 l0_0.length c0_0) := (qA BK160.out 0).trans rfl; have hcz41_1 : w39.cell? ⟨gb160, 1, none⟩ = some (.slice A0_1 l0_1.length c0_1) := (qA BK160.out 1).trans rfl; have hcz41_2 : w39.cell? ⟨gb160, 2, none⟩ = some (.int .i64 a0_2) := (qA BK160.out 2).trans rfl; have hcz41_3 : w39.cell? ⟨gb160, 3, none⟩ = some (.int .i64 a0_3) := (qA BK160.out 3).trans rfl; have hfz41_0 := qD BK160.out 0; have hfz41_1 := qD BK160.out 1; have hfz41_2 := qD BK160.out 2; have hfz41_3 := qD BK160.out 3))
          go_meet
          case rel => exact ⟨_, (decide ((l0_1.length : Int) ≥ 100)), (by first | rfl | (simp; done) | (simp [*]; done)), H', ⟨by first | omega | exact Nat.le_refl _⟩, ⟨by (with_reducible repeat (first | refine qH ?_ _ | refine qI ?_ | refine qG ?_ _)); exact BK160.out⟩, ⟨by (with_reducible repeat (first | refine qH ?_ _ | refine qI ?_ | refine qG ?_ _)); exact BK161.out⟩, ⟨by (with_reducible repeat (first | refine qH ?_ _ | refine qI ?_ | refine qG ?_ _)); exact BK162.out⟩, ⟨by repeat (first | (with_reducible first | exact HB.out | apply qF | apply qC | apply qE | refine qB ?_ GE160.out | refine qB ?_ GE161.out | refine qB ?_ GE162.out) | exact HB.out)⟩⟩
      · replace c28 := Bool.eq_false_iff.mpr c28
        subst c28
        have H1 : (spec_l7Write.j0 k true l0_0 l0_1 a0_2 a0_3 a1 a2) = some (r1, r2, r3, r4, r5) := by first | rfl | (rw [if_neg (show ¬ (false = true) by decide)] at H; exact H)
        clear H
        have H := H1
        clear H1
        have H' := Aside0.mk H
        clear H
        have hnb42 := NB162_160.out
        have hnc42 := NB160_162.out
        have hnb43 := NB162_161.out
        have hnc43 := NB161_162.out
        have hcz44_0 : w21.cell? ⟨gb162, 0, none⟩ = some (.int .i64 0) := (qA BK162.out 0).trans rfl
        have hcz44_1 : w21.cell? ⟨gb162, 1, none⟩ = some (.string (⟨#[]⟩ : ByteArray)) := (qA BK162.out 1).trans rfl
        have hfz44_0 := qD BK162.out 0
        have hfz44_1 := qD BK162.out 1
        go_wp2_with (first | ((with_reducible refine qT (f := 67) rfl ?_); refine zL (some 19) rfl rfl Try.func67 (by kernel_rfl) rfl #[.agg #[.int .i64 a1, .string a2]] rfl (by (try simp only [List.map_toArray, List.map_cons, List.map_nil]); first | done | rfl | (simp only [List.length_drop, List.length_take]; rfl)) ?_; (with_reducible refine (spec_l7Wait.calls a1 a2 false _ A27.out).mono ?_); rintro e w45 ⟨rfl, hb⟩; refine ⟨_, rfl, ?_⟩; have n0_ := Aside0.mk (qJ (g := gb160) (o := .cells #[.slice A0_0 l0_0.length c0_0, .slice A0_1 l0_1.length c0_1, .int .i64 a0_2, .int .i64 a0_3] 26 (0, 0)) (by (with_reducible repeat (first | refine qH ?_ _ | refine qI ?_ | refine qG ?_ _)); refine qR ?_ NB160_162.out _; (with_reducible repeat (first | refine qH ?_ _ | refine qI ?_ | refine qG ?_ _)); refine qR ?_ NB160_162.out _; (with_reducible repeat (first | refine qH ?_ _ | refine qI ?_ | refine qG ?_ _)); exact BK160.out) hb); have n1_ := Aside0.mk (qJ (g := gb161) (o := .cells #[.slice none 0 0, .slice none 0 0, .int .i64 0, .int .i64 0] 26 (0, 0)) (by (with_reducible repeat (first | refine qH ?_ _ | refine qI ?_ | refine qG ?_ _)); refine qR ?_ NB161_162.out _; (with_reducible repeat (first | refine qH ?_ _ | refine qI ?_ | refine qG ?_ _)); refine qR ?_ NB161_162.out _; (with_reducible repeat (first | refine qH ?_ _ | refine qI ?_ | refine qG ?_ _)); exact BK161.out) hb); have n2_ := Aside0.mk (qJ (g := gb162) (o := .cells #[.int .i64 a1, .string a2] 70 (0, 0)) (by (with_reducible repeat (first | refine qH ?_ _ | refine qI ?_ | refine qG ?_ _)); refine qP (cs := #[.int .i64 a1, .string (⟨#[]⟩ : ByteArray)]) ?_ 1 _ rfl; (with_reducible repeat (first | refine qH ?_ _ | refine qI ?_ | refine qG ?_ _)); refine qP (cs := #[.int .i64 0, .string (⟨#[]⟩ : ByteArray)]) ?_ 0 _ rfl; (with_reducible repeat (first | refine qH ?_ _ | refine qI ?_ | refine qG ?_ _)); exact BK162.out) hb); have n3_ := Aside0.mk (qN (by repeat (first | (with_reducible first | exact HB.out | apply qF | apply qC | apply qE | refine qB ?_ GE160.out | refine qB ?_ GE161.out | refine qB ?_ GE162.out) | exact HB.out)) hb); clear BK160; clear BK161; clear BK162; clear HB; have BK160 := n0_; have BK161 := n1_; have BK162 := n2_; have HB := n3_; clear n0_ n1_ n2_ n3_; (try clear hb); (try clear hb2); (try clear hk); (try clear hi)))
        go_meet
        case rel => exact ⟨_, (true), (by first | rfl | (simp; done) | (simp [*]; done)), H', ⟨by first | omega | exact Nat.le_refl _⟩, ⟨by (with_reducible repeat (first | refine qH ?_ _ | refine qI ?_ | refine qG ?_ _)); exact BK160.out⟩, ⟨by (with_reducible repeat (first | refine qH ?_ _ | refine qI ?_ | refine qG ?_ _)); exact BK161.out⟩, ⟨by (with_reducible repeat (first | refine qH ?_ _ | refine qI ?_ | refine qG ?_ _)); exact BK162.out⟩, ⟨by repeat (first | (with_reducible first | exact HB.out | apply qF | apply qC | apply qE | refine qB ?_ GE160.out | refine qB ?_ GE161.out | refine qB ?_ GE162.out) | exact HB.out)⟩⟩
    case rest =>
      clear HC18
      try clear c1
      try clear c2
      try clear p2
      try clear c3
      try clear c4
      try clear c4b0
      try clear c4b1
      try clear c6
      try clear c9
      try clear c10
      try clear c12
      try clear c22
      try clear c23
      try clear c25
      try clear c28
      try clear c29
      try clear c29b0
      try clear c29b1
      try clear c30
      try clear c31
      try clear c34
      try clear c36
      try clear c37
      try clear c38
      try clear c40
      try clear c42
      try clear c43
      try clear hcz11_0
      try clear hcz11_1
      try clear hcz13_0
      try clear hcz13_1
      try clear hcz13_2
      try clear hcz13_3
      try clear hcz16_0
      try clear hcz16_1
      try clear hcz16_2
      try clear hcz16_3
      try clear hcz24_0
      try clear hcz24_1
      try clear hcz26_0
      try clear hcz26_1
      try clear hcz26_2
      try clear hcz26_3
      try clear hcz32_0
      try clear hcz32_1
      try clear hcz35_0
      try clear hcz35_1
      try clear hcz35_2
      try clear hcz35_3
      try clear hcz38_0
      try clear hcz38_1
      try clear hcz41_0
      try clear hcz41_1
      try clear hcz41_2
      try clear hcz41_3
      try clear hcz44_0
      try clear hcz44_1
      try clear hfz11_0
      try clear hfz11_1
      try clear hfz13_0
      try clear hfz13_1
      try clear hfz13_2
      try clear hfz13_3
      try clear hfz16_0
      try clear hfz16_1
      try clear hfz16_2
      try clear hfz16_3
      try clear hfz24_0
      try clear hfz24_1
      try clear hfz26_0
      try clear hfz26_1
      try clear hfz26_2
      try clear hfz26_3
      try clear hfz32_0
      try clear hfz32_1
      try clear hfz35_0
      try clear hfz35_1
      try clear hfz35_2
      try clear hfz35_3
      try clear hfz38_0
      try clear hfz38_1
      try clear hfz41_0
      try clear hfz41_1
      try clear hfz41_2
      try clear hfz41_3
      try clear hfz44_0
      try clear hfz44_1
      obtain ⟨kq, x31_17, rfl, HA, HJ17, BK160, BK161, BK162, HB⟩ := hcut
      cases kq with
      | zero => exact absurd HA.out (by simp [spec_l7Write.j0])
      | succ kj17 =>
        have H := HA.out
        clear HA
        simp only [spec_l7Write.j0] at H
        by_cases c46 : x31_17 = true
        · subst c46
          have H1 : ((spec_l7Copy.f l0_0 l0_1 a0_2 a0_3).bind fun bt172 => (some (bt172.1, bt172.2.1, bt172.2.2.1, bt172.2.2.2, false))) = some (r1, r2, r3, r4, r5) := by first | rfl | (rw [if_pos rfl] at H; exact H)
          clear H
          have H := H1
          clear H1
          replace H := Option.bind_eq_some_iff.mp H
          obtain ⟨⟨t172, t175, t178, t179⟩, A470, H⟩ := H
          replace H : (some (t172, t175, t178, t179, false)) = some (r1, r2, r3, r4, r5) := H
          have A47 := Aside0.mk A470
          clear A470
          simp only [Option.some.injEq, Prod.mk.injEq] at H
          obtain ⟨rfl, rfl, rfl, rfl, rfl⟩ := H
          have hnb48 := NB160_161.out
          have hnc48 := NB161_160.out
          have hnb49 := NB160_162.out
          have hnc49 := NB162_160.out
          have hcz50_0 : wc.cell? ⟨gb160, 0, none⟩ = some (.slice A0_0 l0_0.length c0_0) := (qA BK160.out 0).trans rfl
          have hcz50_1 : wc.cell? ⟨gb160, 1, none⟩ = some (.slice A0_1 l0_1.length c0_1) := (qA BK160.out 1).trans rfl
          have hcz50_2 : wc.cell? ⟨gb160, 2, none⟩ = some (.int .i64 a0_2) := (qA BK160.out 2).trans rfl
          have hcz50_3 : wc.cell? ⟨gb160, 3, none⟩ = some (.int .i64 a0_3) := (qA BK160.out 3).trans rfl
          have hfz50_0 := qD BK160.out 0
          have hfz50_1 := qD BK160.out 1
          have hfz50_2 := qD BK160.out 2
          have hfz50_3 := qD BK160.out 3
          go_wp2_with (first | ((with_reducible refine qT (f := 38) rfl ?_); refine zL (some 33) rfl rfl Try.func38 (by kernel_rfl) rfl #[.agg #[.slice A0_0 l0_0.length c0_0, .slice A0_1 l0_1.length c0_1, .int .i64 a0_2, .int .i64 a0_3]] rfl (by (try simp only [List.map_toArray, List.map_cons, List.map_nil]); first | done | rfl | (simp only [List.length_drop, List.length_take]; rfl)) ?_; (with_reducible refine (spec_l7Copy.calls _ _ l0_0 _ _ l0_1 a0_2 a0_3 t172 t175 t178 t179 _ ?side1 ?side2 ?side3 ?side4 A47.out).mono ?_); (case side1 => repeat (first | exact (Kd.zI HR0_0.out HB.out) | (with_reducible refine Kd.zC ?_ _) | (with_reducible refine Kd.zD ?_ _) | (with_reducible refine Kd.zH ?_))); (case side2 => exact HC0_0.out); (case side3 => repeat (first | exact (Kd.zI HR0_1.out HB.out) | (with_reducible refine Kd.zC ?_ _) | (with_reducible refine Kd.zD ?_ _) | (with_reducible refine Kd.zH ?_))); (case side4 => exact HC0_1.out); rintro e w51 ⟨v173, v176, rfl, ho0, ho1, hb⟩; refine ⟨_, rfl, ?_⟩; have n0_ := Aside0.mk (Kd.zJ ho0 (qM (by repeat (first | (with_reducible first | exact HB.out | apply qF | apply qC | apply qE | refine qB ?_ GE160.out | refine qB ?_ GE161.out | refine qB ?_ GE162.out) | exact HB.out)))); have n1_ := Aside0.mk (Kd.zJ (Kd.R_newB ho1 (g := gb162) (o := .cells #[.int .i64 a1, .string a2] 70 (0, 0)) (bw_ BK162.out)) (qM (by repeat (first | (with_reducible first | exact HB.out | apply qF | apply qC | apply qE | refine qB ?_ GE160.out | refine qB ?_ GE161.out | refine qB ?_ GE162.out) | exact HB.out)))); have n2_ := Aside0.mk (qJ (g := gb160) (o := .cells #[.slice A0_0 l0_0.length c0_0, .slice A0_1 l0_1.length c0_1, .int .i64 a0_2, .int .i64 a0_3] 26 (0, 0)) (bw_ BK160.out) hb); have n3_ := Aside0.mk (qJ (g := gb161) (o := .cells #[.slice none 0 0, .slice none 0 0, .int .i64 0, .int .i64 0] 26 (0, 0)) (bw_ BK161.out) hb); have n4_ := Aside0.mk (qJ (g := gb162) (o := .cells #[.int .i64 a1, .string a2] 70 (0, 0)) (bw_ BK162.out) hb); have n5_ := Aside0.mk (qN (by repeat (first | (with_reducible first | exact HB.out | apply qF | apply qC | apply qE | refine qB ?_ GE160.out | refine qB ?_ GE161.out | refine qB ?_ GE162.out) | exact HB.out)) hb); clear BK160; clear BK161; clear BK162; clear HB; have HO174 := n0_; have HO177 := n1_; have BK160 := n2_; have BK161 := n3_; have BK162 := n4_; have HB := n5_; clear n0_ n1_ n2_ n3_ n4_ n5_; (try clear hb); (try clear hb2); (try clear hk); (try clear hi); (try clear ho0); (try clear ho1); obtain ⟨Ao52, co52, eo52⟩ := Kd.zG HO174.out; subst eo52; have hnb53 := NB161_162.out; have hnc53 := NB162_161.out; have hcz54_0 : w51.cell? ⟨gb161, 0, none⟩ = some (.slice none 0 0) := (qA BK161.out 0).trans rfl; have hcz54_1 : w51.cell? ⟨gb161, 1, none⟩ = some (.slice none 0 0) := (qA BK161.out 1).trans rfl; have hcz54_2 : w51.cell? ⟨gb161, 2, none⟩ = some (.int .i64 0) := (qA BK161.out 2).trans rfl; have hcz54_3 : w51.cell? ⟨gb161, 3, none⟩ = some (.int .i64 0) := (qA BK161.out 3).trans rfl; have hfz54_0 := qD BK161.out 0; have hfz54_1 := qD BK161.out 1; have hfz54_2 := qD BK161.out 2; have hfz54_3 := qD BK161.out 3; obtain ⟨Ao55, co55, eo55⟩ := Kd.zG HO177.out; subst eo55))
          refine bodyPost_ret (results_ct rfl _ _ gb161 26 #[.slice Ao52 t172.length co52, .slice Ao55 t175.length co55, .int .i64 t178, .int .i64 t179] (0, 0) _ rfl (by (with_reducible repeat (first | refine qH ?_ _ | refine qI ?_ | refine qG ?_ _)); refine qP (cs := #[.slice Ao52 t172.length co52, .slice Ao55 t175.length co55, .int .i64 t178, .int .i64 0]) ?_ 3 _ rfl; (with_reducible repeat (first | refine qH ?_ _ | refine qI ?_ | refine qG ?_ _)); refine qP (cs := #[.slice Ao52 t172.length co52, .slice Ao55 t175.length co55, .int .i64 0, .int .i64 0]) ?_ 2 _ rfl; (with_reducible repeat (first | refine qH ?_ _ | refine qI ?_ | refine qG ?_ _)); refine qP (cs := #[.slice Ao52 t172.length co52, .slice none 0 0, .int .i64 0, .int .i64 0]) ?_ 1 _ rfl; (with_reducible repeat (first | refine qH ?_ _ | refine qI ?_ | refine qG ?_ _)); refine qP (cs := #[.slice none 0 0, .slice none 0 0, .int .i64 0, .int .i64 0]) ?_ 0 _ rfl; (with_reducible repeat (first | refine qH ?_ _ | refine qI ?_ | refine qG ?_ _)); exact BK161.out) Try.underlying26 rfl (by kernel_rfl)) rfl ?_
          exact ⟨_, _, by first | rfl | (simp [errW_none, errW_some] <;> rfl) | (simp [*, errW_none, errW_some] <;> rfl), by (with_reducible repeat (first | apply Kd.qX | apply Kd.qV | apply Kd.qW)); exact Kd.qS (Kd.R_far (p := ⟨gb161, 3, none⟩) (Kd.R_far (p := ⟨gb161, 2, none⟩) (Kd.R_far (p := ⟨gb161, 1, none⟩) (Kd.R_far (p := ⟨gb161, 0, none⟩) (Kd.qY HO174.out BK161.out (by decide)) (fun _ hk => hk.2) (.slice Ao52 t172.length co52)) (fun _ hk => hk.2) (.slice Ao55 t175.length co55)) (fun _ hk => hk.2) (.int .i64 t178)) (fun _ hk => hk.2) (.int .i64 t179)) (fun _ hk => trivial), by (with_reducible repeat (first | apply Kd.qX | apply Kd.qV | apply Kd.qW)); exact Kd.qS (Kd.R_far (p := ⟨gb161, 3, none⟩) (Kd.R_far (p := ⟨gb161, 2, none⟩) (Kd.R_far (p := ⟨gb161, 1, none⟩) (Kd.R_far (p := ⟨gb161, 0, none⟩) (Kd.qY HO177.out BK161.out (by decide)) (fun _ hk => hk.2) (.slice Ao52 t172.length co52)) (fun _ hk => hk.2) (.slice Ao55 t175.length co55)) (fun _ hk => hk.2) (.int .i64 t178)) (fun _ hk => hk.2) (.int .i64 t179)) (fun _ hk => trivial), by repeat (first | (with_reducible first | exact HB.out | apply qF | apply qC | apply qE | refine qB ?_ GE160.out | refine qB ?_ GE161.out | refine qB ?_ GE162.out) | exact HB.out)⟩
        · replace c46 := Bool.eq_false_iff.mpr c46
          subst c46
          have H1 : ((spec_l7Copy.f l0_0 l0_1 a0_2 a0_3).bind fun bt180 => (if bt180.2.1.length < 5864062014805 then ((spec_l7Less.f a0_3).bind fun t192 => ((spec_l7Less.f a0_2).bind fun t193 => (some (bt180.1, (bt180.2.1 ++ [(⟨a1, a2⟩ : S70)]), t193, t192, true)))) else (none))) = some (r1, r2, r3, r4, r5) := by first | rfl | (rw [if_neg (show ¬ (false = true) by decide)] at H; exact H)
          clear H
          have H := H1
          clear H1
          replace H := Option.bind_eq_some_iff.mp H
          obtain ⟨⟨t180, t183, t186, t187⟩, A560, H⟩ := H
          replace H : (if t183.length < 5864062014805 then ((spec_l7Less.f a0_3).bind fun t192 => ((spec_l7Less.f a0_2).bind fun t193 => (some (t180, (t183 ++ [(⟨a1, a2⟩ : S70)]), t193, t192, true)))) else (none)) = some (r1, r2, r3, r4, r5) := H
          have A56 := Aside0.mk A560
          clear A560
          by_cases c57 : t183.length < 5864062014805
          · rw [if_pos c57] at H
            have LMc57 := Aside0.mk c57
            clear c57
            obtain ⟨y189, hy189⟩ : ∃ y_ : List (S70), y_ = (t183 ++ [(⟨a1, a2⟩ : S70)]) := ⟨_, rfl⟩
            replace H : ((spec_l7Less.f a0_3).bind fun t192 => ((spec_l7Less.f a0_2).bind fun t193 => (some (t180, y189, t193, t192, true)))) = some (r1, r2, r3, r4, r5) := by first | (rw [hy189]; with_reducible exact H) | (have H2_ := (Option.bind_some _ _).symm.trans H; rw [hy189]; with_reducible exact H2_) | (have H2_ := (Option.bind_some _ _).symm.trans H; with_reducible exact H2_) | with_reducible exact H | (rw [hy189]; exact H) | exact H
            have Ny189 := Aside0.mk hy189
            clear hy189
            replace H := Option.bind_eq_some_iff.mp H
            obtain ⟨t192, A580, H⟩ := H
            replace H : ((spec_l7Less.f a0_2).bind fun t193 => (some (t180, y189, t193, t192, true))) = some (r1, r2, r3, r4, r5) := H
            have A58 := Aside0.mk A580
            clear A580
            replace H := Option.bind_eq_some_iff.mp H
            obtain ⟨t193, A590, H⟩ := H
            replace H : (some (t180, y189, t193, t192, true)) = some (r1, r2, r3, r4, r5) := H
            have A59 := Aside0.mk A590
            clear A590
            simp only [Option.some.injEq, Prod.mk.injEq] at H
            obtain ⟨rfl, rfl, rfl, rfl, rfl⟩ := H
            have hnb60 := NB160_161.out
            have hnc60 := NB161_160.out
            have hnb61 := NB160_162.out
            have hnc61 := NB162_160.out
            have hcz62_0 : wc.cell? ⟨gb160, 0, none⟩ = some (.slice A0_0 l0_0.length c0_0) := (qA BK160.out 0).trans rfl
            have hcz62_1 : wc.cell? ⟨gb160, 1, none⟩ = some (.slice A0_1 l0_1.length c0_1) := (qA BK160.out 1).trans rfl
            have hcz62_2 : wc.cell? ⟨gb160, 2, none⟩ = some (.int .i64 a0_2) := (qA BK160.out 2).trans rfl
            have hcz62_3 : wc.cell? ⟨gb160, 3, none⟩ = some (.int .i64 a0_3) := (qA BK160.out 3).trans rfl
            have hfz62_0 := qD BK160.out 0
            have hfz62_1 := qD BK160.out 1
            have hfz62_2 := qD BK160.out 2
            have hfz62_3 := qD BK160.out 3
            go_wp2_with (first | ((with_reducible refine qT (f := 38) rfl ?_); refine zL (some 35) rfl rfl Try.func38 (by kernel_rfl) rfl #[.agg #[.slice A0_0 l0_0.length c0_0, .slice A0_1 l0_1.length c0_1, .int .i64 a0_2, .int .i64 a0_3]] rfl (by (try simp only [List.map_toArray, List.map_cons, List.map_nil]); first | done | rfl | (simp only [List.length_drop, List.length_take]; rfl)) ?_; (with_reducible refine (spec_l7Copy.calls _ _ l0_0 _ _ l0_1 a0_2 a0_3 t180 t183 t186 t187 _ ?side1 ?side2 ?side3 ?side4 A56.out).mono ?_); (case side1 => repeat (first | exact (Kd.zI HR0_0.out HB.out) | (with_reducible refine Kd.zC ?_ _) | (with_reducible refine Kd.zD ?_ _) | (with_reducible refine Kd.zH ?_))); (case side2 => exact HC0_0.out); (case side3 => repeat (first | exact (Kd.zI HR0_1.out HB.out) | (with_reducible refine Kd.zC ?_ _) | (with_reducible refine Kd.zD ?_ _) | (with_reducible refine Kd.zH ?_))); (case side4 => exact HC0_1.out); rintro e w63 ⟨v181, v184, rfl, ho0, ho1, hb⟩; refine ⟨_, rfl, ?_⟩; have n0_ := Aside0.mk (Kd.zJ ho0 (qM (by repeat (first | (with_reducible first | exact HB.out | apply qF | apply qC | apply qE | refine qB ?_ GE160.out | refine qB ?_ GE161.out | refine qB ?_ GE162.out) | exact HB.out)))); have n1_ := Aside0.mk (Kd.zJ (Kd.R_newB ho1 (g := gb162) (o := .cells #[.int .i64 a1, .string a2] 70 (0, 0)) (bw_ BK162.out)) (qM (by repeat (first | (with_reducible first | exact HB.out | apply qF | apply qC | apply qE | refine qB ?_ GE160.out | refine qB ?_ GE161.out | refine qB ?_ GE162.out) | exact HB.out)))); have n2_ := Aside0.mk (qJ (g := gb160) (o := .cells #[.slice A0_0 l0_0.length c0_0, .slice A0_1 l0_1.length c0_1, .int .i64 a0_2, .int .i64 a0_3] 26 (0, 0)) (bw_ BK160.out) hb); have n3_ := Aside0.mk (qJ (g := gb161) (o := .cells #[.slice none 0 0, .slice none 0 0, .int .i64 0, .int .i64 0] 26 (0, 0)) (bw_ BK161.out) hb); have n4_ := Aside0.mk (qJ (g := gb162) (o := .cells #[.int .i64 a1, .string a2] 70 (0, 0)) (bw_ BK162.out) hb); have n5_ := Aside0.mk (qN (by repeat (first | (with_reducible first | exact HB.out | apply qF | apply qC | apply qE | refine qB ?_ GE160.out | refine qB ?_ GE161.out | refine qB ?_ GE162.out) | exact HB.out)) hb); clear BK160; clear BK161; clear BK162; clear HB; have HO182 := n0_; have HO185 := n1_; have BK160 := n2_; have BK161 := n3_; have BK162 := n4_; have HB := n5_; clear n0_ n1_ n2_ n3_ n4_ n5_; (try clear hb); (try clear hb2); (try clear hk); (try clear hi); (try clear ho0); (try clear ho1)) | ((with_reducible refine zB (N := 9) rfl ?_); refine qZ ?hg (N := 9) ?hd (cs := #[.slice none 0 0, .slice none 0 0, .int .i64 0, .int .i64 0]) (t := 26) ?hr ?_; (case hd => rfl); (case hg => rfl); (case hr => first | (go_simp; done) | (go_simp; rfl)); intro gb188 hg w64 hbox hb; have n0_ := Aside0.mk (Kd.qU (rw_ HO182.out) hb); have n1_ := Aside0.mk (Kd.qU (rw_ HO185.out) hb); have n2_ := Aside0.mk (qJ (g := gb160) (o := .cells #[.slice A0_0 l0_0.length c0_0, .slice A0_1 l0_1.length c0_1, .int .i64 a0_2, .int .i64 a0_3] 26 (0, 0)) (bw_ BK160.out) hb); have n3_ := Aside0.mk (qJ (g := gb161) (o := .cells #[.slice none 0 0, .slice none 0 0, .int .i64 0, .int .i64 0] 26 (0, 0)) (bw_ BK161.out) hb); have n4_ := Aside0.mk (qJ (g := gb162) (o := .cells #[.int .i64 a1, .string a2] 70 (0, 0)) (bw_ BK162.out) hb); have n5_ := Aside0.mk (qN (by repeat (first | (with_reducible first | exact HB.out | apply qF | apply qC | apply qE | refine qB ?_ GE160.out | refine qB ?_ GE161.out | refine qB ?_ GE162.out) | exact HB.out)) hb); have n6_ := Aside0.mk (hbox); have n7_ := Aside0.mk ((by rw [hg]; exact (qM (by repeat (first | (with_reducible first | exact HB.out | apply qF | apply qC | apply qE | refine qB ?_ GE160.out | refine qB ?_ GE161.out | refine qB ?_ GE162.out) | exact HB.out))) : w.heap.size ≤ gb188)); have n8_ := Aside0.mk ((by rw [hg]; exact (qM (by repeat (first | (with_reducible first | exact HB.out | apply qF | apply qC | apply qE | refine qB ?_ GE160.out | refine qB ?_ GE161.out | refine qB ?_ GE162.out) | exact HB.out))) : w.heap.size ≤ gb188)); have n9_ := Aside0.mk ((by rw [hg]; exact Nat.ne_of_lt (zE (g := gb160) (o := .cells #[.slice A0_0 l0_0.length c0_0, .slice A0_1 l0_1.length c0_1, .int .i64 a0_2, .int .i64 a0_3] 26 (0, 0)) (bw_ BK160.out)) : gb160 ≠ gb188)); have n10_ := Aside0.mk ((by rw [hg]; exact Nat.ne_of_gt (zE (g := gb160) (o := .cells #[.slice A0_0 l0_0.length c0_0, .slice A0_1 l0_1.length c0_1, .int .i64 a0_2, .int .i64 a0_3] 26 (0, 0)) (bw_ BK160.out)) : gb188 ≠ gb160)); have n11_ := Aside0.mk ((by rw [hg]; exact Nat.ne_of_lt (zE (g := gb161) (o := .cells #[.slice none 0 0, .slice none 0 0, .int .i64 0, .int .i64 0] 26 (0, 0)) (bw_ BK161.out)) : gb161 ≠ gb188)); have n12_ := Aside0.mk ((by rw [hg]; exact Nat.ne_of_gt (zE (g := gb161) (o := .cells #[.slice none 0 0, .slice none 0 0, .int .i64 0, .int .i64 0] 26 (0, 0)) (bw_ BK161.out)) : gb188 ≠ gb161)); have n13_ := Aside0.mk ((by rw [hg]; exact Nat.ne_of_lt (zE (g := gb162) (o := .cells #[.int .i64 a1, .string a2] 70 (0, 0)) (bw_ BK162.out)) : gb162 ≠ gb188)); have n14_ := Aside0.mk ((by rw [hg]; exact Nat.ne_of_gt (zE (g := gb162) (o := .cells #[.int .i64 a1, .string a2] 70 (0, 0)) (bw_ BK162.out)) : gb188 ≠ gb162)); clear HO182; clear HO185; clear BK160; clear BK161; clear BK162; clear HB; have HO182 := n0_; have HO185 := n1_; have BK160 := n2_; have BK161 := n3_; have BK162 := n4_; have HB := n5_; have BK188 := n6_; have GW188 := n7_; have GE188 := n8_; have NB160_188 := n9_; have NB188_160 := n10_; have NB161_188 := n11_; have NB188_161 := n12_; have NB162_188 := n13_; have NB188_162 := n14_; clear n0_ n1_ n2_ n3_ n4_ n5_ n6_ n7_ n8_ n9_ n10_ n11_ n12_ n13_ n14_; clear hb hbox hg; obtain ⟨Ao65, co65, eo65⟩ := Kd.zG HO182.out; subst eo65; have hnb66 := NB188_160.out; have hnc66 := NB160_188.out; have hnb67 := NB188_161.out; have hnc67 := NB161_188.out; have hnb68 := NB188_162.out; have hnc68 := NB162_188.out; have hcz69_0 : w64.cell? ⟨gb188, 0, none⟩ = some (.slice none 0 0) := (qA BK188.out 0).trans rfl; have hcz69_1 : w64.cell? ⟨gb188, 1, none⟩ = some (.slice none 0 0) := (qA BK188.out 1).trans rfl; have hcz69_2 : w64.cell? ⟨gb188, 2, none⟩ = some (.int .i64 0) := (qA BK188.out 2).trans rfl; have hcz69_3 : w64.cell? ⟨gb188, 3, none⟩ = some (.int .i64 0) := (qA BK188.out 3).trans rfl; have hfz69_0 := qD BK188.out 0; have hfz69_1 := qD BK188.out 1; have hfz69_2 := qD BK188.out 2; have hfz69_3 := qD BK188.out 3; obtain ⟨Ao70, co70, eo70⟩ := Kd.zG HO185.out; subst eo70; have hnb71 := NB162_161.out; have hnc71 := NB161_162.out; have hcz72_0 : w64.cell? ⟨gb162, 0, none⟩ = some (.int .i64 a1) := (qA BK162.out 0).trans rfl; have hcz72_1 : w64.cell? ⟨gb162, 1, none⟩ = some (.string a2) := (qA BK162.out 1).trans rfl; have hfz72_0 := qD BK162.out 0; have hfz72_1 := qD BK162.out 1) | ((with_reducible refine xH (b := .append) (xs := #[.tmp 37, .tmp 39]) rfl ?_); at_builtin; refine Kd.R_append k70 (w0 := w) w.heap.size rfl (.tmp 37) (.tmp 39) 24 70 (.agg #[(.int .i64 0), (.string ⟨#[]⟩)]) 24 rfl Try.underlying24 info70 rfl (by decide) (by omega) (.slice Ao70 t183.length co70) t183 (⟨a1, a2⟩ : S70) [.int .i64 a1, .string a2] (fun k_ => k_ ≠ gb162) (fun _ => False) rfl (by first | (go_simp; done) | (go_simp; rfl)) ?aP (fun _ hk => hk.elim) ?aF ?aO ?aB ?aS ?aL ?_; (case aP => exact k70_mkM _ _ _ (⟨a1, a2⟩ : S70)); (case aB => exact (by repeat (first | (with_reducible first | exact HB.out | apply qF | apply qC | apply qE | refine qB ?_ GE160.out | refine qB ?_ GE161.out | refine qB ?_ GE162.out | refine qB ?_ GE188.out) | exact HB.out))); (case aF => exact (fun k_ hk => Kd.freshB (g := gb162) (o := .cells #[.int .i64 a1, .string a2] 70 (0, 0)) (by (with_reducible repeat (first | refine qH ?_ _ | refine qI ?_ | refine qG ?_ _)); refine qR ?_ NB162_188.out _; (with_reducible repeat (first | refine qH ?_ _ | refine qI ?_ | refine qG ?_ _)); refine qR ?_ NB162_188.out _; (with_reducible repeat (first | refine qH ?_ _ | refine qI ?_ | refine qG ?_ _)); refine qR ?_ NB162_188.out _; (with_reducible repeat (first | refine qH ?_ _ | refine qI ?_ | refine qG ?_ _)); refine qR ?_ NB162_188.out _; (with_reducible repeat (first | refine qH ?_ _ | refine qI ?_ | refine qG ?_ _)); exact BK162.out) k_ hk)); (case aO => exact (by (with_reducible repeat (first | apply Kd.qX | apply Kd.qV | apply Kd.qW)); exact Kd.qS (Kd.R_far (p := ⟨gb188, 3, none⟩) (Kd.R_far (p := ⟨gb188, 2, none⟩) (Kd.R_far (p := ⟨gb188, 1, none⟩) (Kd.R_far (p := ⟨gb188, 0, none⟩) (Kd.qY HO185.out BK188.out (by decide)) (fun _ hk => hk.2) (.slice Ao65 t180.length co65)) (fun _ hk => hk.2) (.slice Ao70 t183.length co70)) (fun _ hk => hk.2) (.int .i64 t186)) (fun _ hk => hk.2) (.int .i64 t187)) (fun _ hk => hk.1.2))); (case aS => exact (qM (by repeat (first | (with_reducible first | exact HB.out | apply qF | apply qC | apply qE | refine qB ?_ GE160.out | refine qB ?_ GE161.out | refine qB ?_ GE162.out | refine qB ?_ GE188.out) | exact HB.out)))); (case aL => have := LMc57.out; omega); intro v190 w73 ho hb hg hat; rw [← Ny189.out] at ho; have n0_ := Aside0.mk (zT (g := gb160) (o := .cells #[.slice A0_0 l0_0.length c0_0, .slice A0_1 l0_1.length c0_1, .int .i64 a0_2, .int .i64 a0_3] 26 (0, 0)) (by (with_reducible repeat (first | refine qH ?_ _ | refine qI ?_ | refine qG ?_ _)); refine qR ?_ NB160_188.out _; (with_reducible repeat (first | refine qH ?_ _ | refine qI ?_ | refine qG ?_ _)); refine qR ?_ NB160_188.out _; (with_reducible repeat (first | refine qH ?_ _ | refine qI ?_ | refine qG ?_ _)); refine qR ?_ NB160_188.out _; (with_reducible repeat (first | refine qH ?_ _ | refine qI ?_ | refine qG ?_ _)); refine qR ?_ NB160_188.out _; (with_reducible repeat (first | refine qH ?_ _ | refine qI ?_ | refine qG ?_ _)); exact BK160.out) hg (Kd.R_ne HO185.out BK160.out (by decide))); have n1_ := Aside0.mk (zT (g := gb161) (o := .cells #[.slice none 0 0, .slice none 0 0, .int .i64 0, .int .i64 0] 26 (0, 0)) (by (with_reducible repeat (first | refine qH ?_ _ | refine qI ?_ | refine qG ?_ _)); refine qR ?_ NB161_188.out _; (with_reducible repeat (first | refine qH ?_ _ | refine qI ?_ | refine qG ?_ _)); refine qR ?_ NB161_188.out _; (with_reducible repeat (first | refine qH ?_ _ | refine qI ?_ | refine qG ?_ _)); refine qR ?_ NB161_188.out _; (with_reducible repeat (first | refine qH ?_ _ | refine qI ?_ | refine qG ?_ _)); refine qR ?_ NB161_188.out _; (with_reducible repeat (first | refine qH ?_ _ | refine qI ?_ | refine qG ?_ _)); exact BK161.out) hg (Kd.R_ne HO185.out BK161.out (by decide))); have n2_ := Aside0.mk (zT (g := gb162) (o := .cells #[.int .i64 a1, .string a2] 70 (0, 0)) (by (with_reducible repeat (first | refine qH ?_ _ | refine qI ?_ | refine qG ?_ _)); refine qR ?_ NB162_188.out _; (with_reducible repeat (first | refine qH ?_ _ | refine qI ?_ | refine qG ?_ _)); refine qR ?_ NB162_188.out _; (with_reducible repeat (first | refine qH ?_ _ | refine qI ?_ | refine qG ?_ _)); refine qR ?_ NB162_188.out _; (with_reducible repeat (first | refine qH ?_ _ | refine qI ?_ | refine qG ?_ _)); refine qR ?_ NB162_188.out _; (with_reducible repeat (first | refine qH ?_ _ | refine qI ?_ | refine qG ?_ _)); exact BK162.out) hg (Kd.R_away HO185.out (fun _ hk => hk.2))); have n3_ := Aside0.mk (Kd.R_over' (by (with_reducible repeat (first | apply Kd.qX | apply Kd.qV | apply Kd.qW)); exact (Kd.qS (Kd.R_far (p := ⟨gb188, 3, none⟩) (Kd.R_far (p := ⟨gb188, 2, none⟩) (Kd.R_far (p := ⟨gb188, 1, none⟩) (Kd.R_far (p := ⟨gb188, 0, none⟩) (Kd.qY HO182.out BK188.out (by decide)) (fun _ hk => hk.2) (.slice Ao65 t180.length co65)) (fun _ hk => hk.2) (.slice Ao70 t183.length co70)) (fun _ hk => hk.2) (.int .i64 t186)) (fun _ hk => hk.2) (.int .i64 t187)) (fun _ h_ => h_.1))) (Kd.R_typed (by (with_reducible repeat (first | apply Kd.qX | apply Kd.qV | apply Kd.qW)); exact (Kd.qS (Kd.R_far (p := ⟨gb188, 3, none⟩) (Kd.R_far (p := ⟨gb188, 2, none⟩) (Kd.R_far (p := ⟨gb188, 1, none⟩) (Kd.R_far (p := ⟨gb188, 0, none⟩) (Kd.qY HO185.out BK188.out (by decide)) (fun _ hk => hk.2) (.slice Ao65 t180.length co65)) (fun _ hk => hk.2) (.slice Ao70 t183.length co70)) (fun _ hk => hk.2) (.int .i64 t186)) (fun _ hk => hk.2) (.int .i64 t187)) (fun _ h_ => h_.1)))) (by decide) hg); have n4_ := Aside0.mk (zT (g := gb188) (o := .cells #[.slice Ao65 t180.length co65, .slice Ao70 t183.length co70, .int .i64 t186, .int .i64 t187] 26 (0, 0)) (by (with_reducible repeat (first | refine qH ?_ _ | refine qI ?_ | refine qG ?_ _)); refine qP (cs := #[.slice Ao65 t180.length co65, .slice Ao70 t183.length co70, .int .i64 t186, .int .i64 0]) ?_ 3 _ rfl; (with_reducible repeat (first | refine qH ?_ _ | refine qI ?_ | refine qG ?_ _)); refine qP (cs := #[.slice Ao65 t180.length co65, .slice Ao70 t183.length co70, .int .i64 0, .int .i64 0]) ?_ 2 _ rfl; (with_reducible repeat (first | refine qH ?_ _ | refine qI ?_ | refine qG ?_ _)); refine qP (cs := #[.slice Ao65 t180.length co65, .slice none 0 0, .int .i64 0, .int .i64 0]) ?_ 1 _ rfl; (with_reducible repeat (first | refine qH ?_ _ | refine qI ?_ | refine qG ?_ _)); refine qP (cs := #[.slice none 0 0, .slice none 0 0, .int .i64 0, .int .i64 0]) ?_ 0 _ rfl; (with_reducible repeat (first | refine qH ?_ _ | refine qI ?_ | refine qG ?_ _)); exact BK188.out) hg (Kd.R_ne HO185.out BK188.out (by decide))); have n5_ := Aside0.mk (hb); have n6_ := Aside0.mk (ho); clear BK160; clear BK161; clear BK162; clear HO182; clear BK188; clear HB; clear HO185; have BK160 := n0_; have BK161 := n1_; have BK162 := n2_; have HO182 := n3_; have BK188 := n4_; have HB := n5_; have HO191 := n6_; clear n0_ n1_ n2_ n3_ n4_ n5_ n6_; clear ho hb hg hat; obtain ⟨Ao74, co74, eo74⟩ := Kd.zG HO191.out; subst eo74; have hcz75_0 : w73.cell? ⟨gb188, 0, none⟩ = some (.slice Ao65 t180.length co65) := (qA BK188.out 0).trans rfl; have hcz75_1 : w73.cell? ⟨gb188, 1, none⟩ = some (.slice Ao70 t183.length co70) := (qA BK188.out 1).trans rfl; have hcz75_2 : w73.cell? ⟨gb188, 2, none⟩ = some (.int .i64 t186) := (qA BK188.out 2).trans rfl; have hcz75_3 : w73.cell? ⟨gb188, 3, none⟩ = some (.int .i64 t187) := (qA BK188.out 3).trans rfl; have hfz75_0 := qD BK188.out 0; have hfz75_1 := qD BK188.out 1; have hfz75_2 := qD BK188.out 2; have hfz75_3 := qD BK188.out 3; have hcz76_0 : w73.cell? ⟨gb160, 0, none⟩ = some (.slice A0_0 l0_0.length c0_0) := (qA BK160.out 0).trans rfl; have hcz76_1 : w73.cell? ⟨gb160, 1, none⟩ = some (.slice A0_1 l0_1.length c0_1) := (qA BK160.out 1).trans rfl; have hcz76_2 : w73.cell? ⟨gb160, 2, none⟩ = some (.int .i64 a0_2) := (qA BK160.out 2).trans rfl; have hcz76_3 : w73.cell? ⟨gb160, 3, none⟩ = some (.int .i64 a0_3) := (qA BK160.out 3).trans rfl; have hfz76_0 := qD BK160.out 0; have hfz76_1 := qD BK160.out 1; have hfz76_2 := qD BK160.out 2; have hfz76_3 := qD BK160.out 3) | ((with_reducible refine qT (f := 69) rfl ?_); refine zL (some 44) rfl rfl Try.func69 (by kernel_rfl) rfl #[.int .i64 a0_3] rfl (by (try simp only [List.map_toArray, List.map_cons, List.map_nil]); first | done | rfl | (simp only [List.length_drop, List.length_take]; rfl)) ?_; (with_reducible refine (spec_l7Less.calls a0_3 t192 _ A58.out).mono ?_); rintro e w' ⟨rfl, ⟨nd, rfl⟩⟩; refine ⟨_, rfl, ?_⟩) | ((with_reducible refine qT (f := 69) rfl ?_); refine zL (some 48) rfl rfl Try.func69 (by kernel_rfl) rfl #[.int .i64 a0_2] rfl (by (try simp only [List.map_toArray, List.map_cons, List.map_nil]); first | done | rfl | (simp only [List.length_drop, List.length_take]; rfl)) ?_; (with_reducible refine (spec_l7Less.calls a0_2 t193 _ A59.out).mono ?_); rintro e w' ⟨rfl, ⟨nd, rfl⟩⟩; refine ⟨_, rfl, ?_⟩; have hcz77_0 : w73.cell? ⟨gb161, 0, none⟩ = some (.slice none 0 0) := (qA BK161.out 0).trans rfl; have hcz77_1 : w73.cell? ⟨gb161, 1, none⟩ = some (.slice none 0 0) := (qA BK161.out 1).trans rfl; have hcz77_2 : w73.cell? ⟨gb161, 2, none⟩ = some (.int .i64 0) := (qA BK161.out 2).trans rfl; have hcz77_3 : w73.cell? ⟨gb161, 3, none⟩ = some (.int .i64 0) := (qA BK161.out 3).trans rfl; have hfz77_0 := qD BK161.out 0; have hfz77_1 := qD BK161.out 1; have hfz77_2 := qD BK161.out 2; have hfz77_3 := qD BK161.out 3))
            refine bodyPost_ret (results_ct rfl _ _ gb161 26 #[.slice Ao65 t180.length co65, .slice Ao74 y189.length co74, .int .i64 t193, .int .i64 t192] (0, 0) _ rfl (by (with_reducible repeat (first | refine qH ?_ _ | refine qI ?_ | refine qG ?_ _)); refine qP (cs := #[.slice Ao65 t180.length co65, .slice Ao74 y189.length co74, .int .i64 t193, .int .i64 0]) ?_ 3 _ rfl; (with_reducible repeat (first | refine qH ?_ _ | refine qI ?_ | refine qG ?_ _)); refine qP (cs := #[.slice Ao65 t180.length co65, .slice Ao74 y189.length co74, .int .i64 0, .int .i64 0]) ?_ 2 _ rfl; (with_reducible repeat (first | refine qH ?_ _ | refine qI ?_ | refine qG ?_ _)); refine qP (cs := #[.slice Ao65 t180.length co65, .slice none 0 0, .int .i64 0, .int .i64 0]) ?_ 1 _ rfl; (with_reducible repeat (first | refine qH ?_ _ | refine qI ?_ | refine qG ?_ _)); refine qP (cs := #[.slice none 0 0, .slice none 0 0, .int .i64 0, .int .i64 0]) ?_ 0 _ rfl; (with_reducible repeat (first | refine qH ?_ _ | refine qI ?_ | refine qG ?_ _)); refine qR ?_ NB161_188.out _; (with_reducible repeat (first | refine qH ?_ _ | refine qI ?_ | refine qG ?_ _)); refine qR ?_ NB161_188.out _; (with_reducible repeat (first | refine qH ?_ _ | refine qI ?_ | refine qG ?_ _)); refine qR ?_ NB161_188.out _; (with_reducible repeat (first | refine qH ?_ _ | refine qI ?_ | refine qG ?_ _)); exact BK161.out) Try.underlying26 rfl (by kernel_rfl)) rfl ?_
            exact ⟨_, _, by first | rfl | (simp [errW_none, errW_some] <;> rfl) | (simp [*, errW_none, errW_some] <;> rfl), by (with_reducible repeat (first | apply Kd.qX | apply Kd.qV | apply Kd.qW)); exact Kd.qS (Kd.R_far (p := ⟨gb161, 3, none⟩) (Kd.R_far (p := ⟨gb161, 2, none⟩) (Kd.R_far (p := ⟨gb161, 1, none⟩) (Kd.R_far (p := ⟨gb161, 0, none⟩) (Kd.R_far (p := ⟨gb188, 2, none⟩) (Kd.R_far (p := ⟨gb188, 3, none⟩) (Kd.R_far (p := ⟨gb188, 1, none⟩) (Kd.qY (Kd.qY HO182.out BK188.out (by decide)) BK161.out (by decide)) (fun _ hk => hk.1.2) (.slice Ao74 y189.length co74)) (fun _ hk => hk.1.2) (.int .i64 t192)) (fun _ hk => hk.1.2) (.int .i64 t193)) (fun _ hk => hk.2) (.slice Ao65 t180.length co65)) (fun _ hk => hk.2) (.slice Ao74 y189.length co74)) (fun _ hk => hk.2) (.int .i64 t193)) (fun _ hk => hk.2) (.int .i64 t192)) (fun _ hk => trivial), by (with_reducible repeat (first | apply Kd.qX | apply Kd.qV | apply Kd.qW)); exact Kd.qS (Kd.R_far (p := ⟨gb161, 3, none⟩) (Kd.R_far (p := ⟨gb161, 2, none⟩) (Kd.R_far (p := ⟨gb161, 1, none⟩) (Kd.R_far (p := ⟨gb161, 0, none⟩) (Kd.R_far (p := ⟨gb188, 2, none⟩) (Kd.R_far (p := ⟨gb188, 3, none⟩) (Kd.R_far (p := ⟨gb188, 1, none⟩) (Kd.qY (Kd.qY HO191.out BK188.out (by decide)) BK161.out (by decide)) (fun _ hk => hk.1.2) (.slice Ao74 y189.length co74)) (fun _ hk => hk.1.2) (.int .i64 t192)) (fun _ hk => hk.1.2) (.int .i64 t193)) (fun _ hk => hk.2) (.slice Ao65 t180.length co65)) (fun _ hk => hk.2) (.slice Ao74 y189.length co74)) (fun _ hk => hk.2) (.int .i64 t193)) (fun _ hk => hk.2) (.int .i64 t192)) (fun _ hk => trivial), by repeat (first | (with_reducible first | exact HB.out | apply qF | apply qC | apply qE | refine qB ?_ GE160.out | refine qB ?_ GE161.out | refine qB ?_ GE162.out | refine qB ?_ GE188.out) | exact HB.out)⟩
          · rw [if_neg c57] at H
            exact absurd H (by simp)

/-! ### spec_l7Sync: function 61 -/
def spec_l7Sync.l0 : Nat → Int → List ByteArray → List (S70) → Int → Int → List ByteArray → List (S70) → Int → Int → Option (List ByteArray × (List (S70)) × Int × Int)
  | 0, _, _, _, _, _, _, _, _, _ => none
  | k + 1, x4, x195000, x195001, x195002, x195003, x205000, x205001, x205002, x205003 => if x4 < (x195001.length : Int) then (if 0 ≤ x4 then (if 0 ≤ ((rd_T70 x195001 x4).f0) then (if ((rd_T70 x195001 x4).f0) < (x205000.length : Int) then (spec_l7Sync.l0 k (wrap64 (x4 + 1)) x195000 x195001 x195002 x195003 (x205000.set (((rd_T70 x195001 x4).f0) : Int).toNat ((rd_T70 x195001 x4).f1)) x205001 x205002 x205003) else (none)) else (none)) else (none)) else ((spec_l7Less.f x195003).bind fun t208 => (some (x205000, ([] : List (S70)), x205002, t208)))
def spec_l7Sync.f (k : Nat) (l0_0 : List ByteArray) (l0_1 : List (S70)) (a0_2 : Int) (a0_3 : Int) : Option (List ByteArray × (List (S70)) × Int × Int) := (spec_l7Copy.f l0_0 l0_1 a0_2 a0_3).bind fun bt196 => (if a0_3 = 0 then (some (bt196.1, bt196.2.1, bt196.2.2.1, bt196.2.2.2)) else (spec_l7Sync.l0 k 0 l0_0 l0_1 a0_2 a0_3 bt196.1 bt196.2.1 bt196.2.2.1 bt196.2.2.2))
theorem spec_l7Sync.mono_l : ∀ k, (∀ y0 y1 y2 y3 y4 y5 y6 y7 y8, LeO (spec_l7Sync.l0 k y0 y1 y2 y3 y4 y5 y6 y7 y8) (spec_l7Sync.l0 (k + 1) y0 y1 y2 y3 y4 y5 y6 y7 y8))
  | 0 => fun _ _ _ _ _ _ _ _ _ r h => by simp [spec_l7Sync.l0] at h
  | k + 1 => by
    have ih0 := spec_l7Sync.mono_l k
    · intro y0 y1 y2 y3 y4 y5 y6 y7 y8
      unfold spec_l7Sync.l0
      repeat' first
      | (with_reducible exact ih0 _ _ _ _ _ _ _ _ _)
      | (with_reducible exact LeO.refl _)
      | (with_reducible exact LeO.none _)
      | (with_reducible refine LeO.ite ?_ ?_)
      | (with_reducible refine LeO.bind ?_ (fun _ => ?_))
      | exact ih0 _ _ _ _ _ _ _ _ _
      | exact LeO.none _
      | refine LeO.ite ?_ ?_
      | refine LeO.bind ?_ (fun _ => ?_)
theorem spec_l7Sync.mono : ∀ a0 a1 a2 a3 k, LeO (spec_l7Sync.f k a0 a1 a2 a3) (spec_l7Sync.f (k + 1) a0 a1 a2 a3) := by
  intro a0 a1 a2 a3 k
  have ih0 := spec_l7Sync.mono_l k
  unfold spec_l7Sync.f
  repeat' first
      | (with_reducible exact ih0 _ _ _ _ _ _ _ _ _)
      | (with_reducible exact LeO.refl _)
      | (with_reducible exact LeO.none _)
      | (with_reducible refine LeO.ite ?_ ?_)
      | (with_reducible refine LeO.bind ?_ (fun _ => ?_))
      | exact ih0 _ _ _ _ _ _ _ _ _
      | exact LeO.none _
      | refine LeO.ite ?_ ?_
      | refine LeO.bind ?_ (fun _ => ?_)
def spec_l7Sync.T7 : Bool × List (List Nat × List Nat) := (true, [([], []), ([0], [0]), ([], []), ([2], [2]), ([], []), ([3, 4], [3, 4]), ([5], [5]), ([6], [6]), ([], []), ([8], [8]), ([], []), ([9, 10], [9, 10]), ([11], [11]), ([12], [12]), ([1, 7, 0, 1, 2, 3, 4, 5, 6, 7, 8, 9, 10, 11, 12, 13], [1, 7]), ([14, 13, 0, 1, 2, 3, 4, 5, 6, 7, 8, 9, 10, 11, 12, 13], [13, 14])])
def spec_l7Sync.B7 : List Nat := [0, 1, 0, 4, 0, 28, 60, 124, 0, 256, 0, 1792, 3840, 7936, 16383, 32767]
theorem spec_l7Sync.tab7 : rtab .any (opsOf Try.f61 7) = spec_l7Sync.T7 := by kernel_rfl
theorem spec_l7Sync.bits7 : waitsOk spec_l7Sync.T7.2 spec_l7Sync.B7 = true := by kernel_rfl
set_option maxHeartbeats 8000000 in
set_option maxRecDepth 100000 in
theorem spec_l7Sync.calls (k : Nat) (A0_0 : Option Addr) (c0_0 : Nat) (l0_0 : List ByteArray) (A0_1 : Option Addr) (c0_1 : Nat) (l0_1 : List (S70)) (a0_2 : Int) (a0_3 : Int) (r1 : List ByteArray) (r2 : List (S70)) (r3 : Int) (r4 : Int) (w : World) (hr0_0 : Kd.C Kd.string w A0_0 l0_0.length l0_0) (hc0_0 : l0_0.length ≤ c0_0) (hr0_1 : Kd.C k70 w A0_1 l0_1.length l0_1) (hc0_1 : l0_1.length ≤ c0_1) (h : spec_l7Sync.f k l0_0 l0_1 a0_2 a0_3 = some (r1, r2, r3, r4)) :
    Calls Try.prog 61 #[.agg #[.slice A0_0 l0_0.length c0_0, .slice A0_1 l0_1.length c0_1, .int .i64 a0_2, .int .i64 a0_3]] w fun e w' => ∃ v0_ v1_ : Value, e = .returned (.agg #[v0_, v1_, .int .i64 r3, .int .i64 r4]) ∧ Kd.R Kd.string 9 w' w.heap.size (fun _ => True) v0_ r1 ∧ Kd.R k70 70 w' w.heap.size (fun _ => True) v1_ r2 ∧ Below w.heap.size w w' := by
  have hu26 := Try.underlying26
  have HR0_0 := Aside0.mk hr0_0
  have HC0_0 := Aside0.mk hc0_0
  clear hr0_0 hc0_0
  have HR0_1 := Aside0.mk hr0_1
  have HC0_1 := Aside0.mk hc0_1
  clear hr0_1 hc0_1
  have HB := Aside0.mk (Below.refl w.heap.size w)
  have H : ((spec_l7Copy.f l0_0 l0_1 a0_2 a0_3).bind fun bt196 => (if a0_3 = 0 then (some (bt196.1, bt196.2.1, bt196.2.2.1, bt196.2.2.2)) else (spec_l7Sync.l0 k 0 l0_0 l0_1 a0_2 a0_3 bt196.1 bt196.2.1 bt196.2.2.1 bt196.2.2.2))) = some (r1, r2, r3, r4) := h
  clear h
  replace H := Option.bind_eq_some_iff.mp H
  obtain ⟨⟨t196, t199, t202, t203⟩, A20, H⟩ := H
  replace H : (if a0_3 = 0 then (some (t196, t199, t202, t203)) else (spec_l7Sync.l0 k 0 l0_0 l0_1 a0_2 a0_3 t196 t199 t202 t203)) = some (r1, r2, r3, r4) := H
  have A2 := Aside0.mk A20
  clear A20
  by_cases c3 : a0_3 = 0
  · rw [if_pos c3] at H
    have c3b0 : (a0_3 == 0) = true := beq_iff_eq.mpr c3
    have c3b1 : (a0_3 != 0) = false := bne_eq_false_iff_eq.mpr c3
    clear c3
    simp only [Option.some.injEq, Prod.mk.injEq] at H
    obtain ⟨rfl, rfl, rfl, rfl⟩ := H
    go_enter Try.func61, Try.ntmps61
    go_wp2_with (first | ((with_reducible refine zB (N := 1) rfl ?_); refine qZ ?hg (N := 1) ?hd (cs := #[.slice A0_0 l0_0.length c0_0, .slice A0_1 l0_1.length c0_1, .int .i64 a0_2, .int .i64 a0_3]) (t := 26) ?hr ?_; (case hd => rfl); (case hg => rfl); (case hr => first | (go_simp; done) | (go_simp; rfl)); intro gb194 hg w4 hbox hb; have n0_ := Aside0.mk (qN (by repeat (first | (with_reducible first | exact HB.out | apply qF | apply qC | apply qE) | exact HB.out)) hb); have n1_ := Aside0.mk (hbox); have n2_ := Aside0.mk ((by rw [hg]; exact (qM (by repeat (first | (with_reducible first | exact HB.out | apply qF | apply qC | apply qE) | exact HB.out))) : w.heap.size ≤ gb194)); have n3_ := Aside0.mk ((by rw [hg]; exact (qM (by repeat (first | (with_reducible first | exact HB.out | apply qF | apply qC | apply qE) | exact HB.out))) : w.heap.size ≤ gb194)); clear HB; have HB := n0_; have BK194 := n1_; have GW194 := n2_; have GE194 := n3_; clear n0_ n1_ n2_ n3_; clear hb hbox hg) | ((with_reducible refine zB (N := 2) rfl ?_); refine qZ ?hg (N := 2) ?hd (cs := #[.slice none 0 0, .slice none 0 0, .int .i64 0, .int .i64 0]) (t := 26) ?hr ?_; (case hd => rfl); (case hg => rfl); (case hr => first | (go_simp; done) | (go_simp; rfl)); intro gb195 hg w5 hbox hb; have n0_ := Aside0.mk (qJ (g := gb194) (o := .cells #[.slice A0_0 l0_0.length c0_0, .slice A0_1 l0_1.length c0_1, .int .i64 a0_2, .int .i64 a0_3] 26 (0, 0)) (bw_ BK194.out) hb); have n1_ := Aside0.mk (qN (by repeat (first | (with_reducible first | exact HB.out | apply qF | apply qC | apply qE | refine qB ?_ GE194.out) | exact HB.out)) hb); have n2_ := Aside0.mk (hbox); have n3_ := Aside0.mk ((by rw [hg]; exact (qM (by repeat (first | (with_reducible first | exact HB.out | apply qF | apply qC | apply qE | refine qB ?_ GE194.out) | exact HB.out))) : w.heap.size ≤ gb195)); have n4_ := Aside0.mk ((by rw [hg]; exact (qM (by repeat (first | (with_reducible first | exact HB.out | apply qF | apply qC | apply qE | refine qB ?_ GE194.out) | exact HB.out))) : w.heap.size ≤ gb195)); have n5_ := Aside0.mk ((by rw [hg]; exact Nat.ne_of_lt (zE (g := gb194) (o := .cells #[.slice A0_0 l0_0.length c0_0, .slice A0_1 l0_1.length c0_1, .int .i64 a0_2, .int .i64 a0_3] 26 (0, 0)) (bw_ BK194.out)) : gb194 ≠ gb195)); have n6_ := Aside0.mk ((by rw [hg]; exact Nat.ne_of_gt (zE (g := gb194) (o := .cells #[.slice A0_0 l0_0.length c0_0, .slice A0_1 l0_1.length c0_1, .int .i64 a0_2, .int .i64 a0_3] 26 (0, 0)) (bw_ BK194.out)) : gb195 ≠ gb194)); clear BK194; clear HB; have BK194 := n0_; have HB := n1_; have BK195 := n2_; have GW195 := n3_; have GE195 := n4_; have NB194_195 := n5_; have NB195_194 := n6_; clear n0_ n1_ n2_ n3_ n4_ n5_ n6_; clear hb hbox hg; have hnb6 := NB194_195.out; have hnc6 := NB195_194.out; have hcz7_0 : w5.cell? ⟨gb194, 0, none⟩ = some (.slice A0_0 l0_0.length c0_0) := (qA BK194.out 0).trans rfl; have hcz7_1 : w5.cell? ⟨gb194, 1, none⟩ = some (.slice A0_1 l0_1.length c0_1) := (qA BK194.out 1).trans rfl; have hcz7_2 : w5.cell? ⟨gb194, 2, none⟩ = some (.int .i64 a0_2) := (qA BK194.out 2).trans rfl; have hcz7_3 : w5.cell? ⟨gb194, 3, none⟩ = some (.int .i64 a0_3) := (qA BK194.out 3).trans rfl; have hfz7_0 := qD BK194.out 0; have hfz7_1 := qD BK194.out 1; have hfz7_2 := qD BK194.out 2; have hfz7_3 := qD BK194.out 3) | ((with_reducible refine qT (f := 38) rfl ?_); refine zL (some 6) rfl rfl Try.func38 (by kernel_rfl) rfl #[.agg #[.slice A0_0 l0_0.length c0_0, .slice A0_1 l0_1.length c0_1, .int .i64 a0_2, .int .i64 a0_3]] rfl (by (try simp only [List.map_toArray, List.map_cons, List.map_nil]); first | done | rfl | (simp only [List.length_drop, List.length_take]; rfl)) ?_; (with_reducible refine (spec_l7Copy.calls _ _ l0_0 _ _ l0_1 a0_2 a0_3 t196 t199 t202 t203 _ ?side1 ?side2 ?side3 ?side4 A2.out).mono ?_); (case side1 => repeat (first | exact (Kd.zI HR0_0.out HB.out) | (with_reducible refine Kd.zC ?_ _) | (with_reducible refine Kd.zD ?_ _) | (with_reducible refine Kd.zH ?_))); (case side2 => exact HC0_0.out); (case side3 => repeat (first | exact (Kd.zI HR0_1.out HB.out) | (with_reducible refine Kd.zC ?_ _) | (with_reducible refine Kd.zD ?_ _) | (with_reducible refine Kd.zH ?_))); (case side4 => exact HC0_1.out); rintro e w8 ⟨v197, v200, rfl, ho0, ho1, hb⟩; refine ⟨_, rfl, ?_⟩; have n0_ := Aside0.mk (Kd.zJ ho0 (qM (by repeat (first | (with_reducible first | exact HB.out | apply qF | apply qC | apply qE | refine qB ?_ GE194.out | refine qB ?_ GE195.out) | exact HB.out)))); have n1_ := Aside0.mk (Kd.zJ ho1 (qM (by repeat (first | (with_reducible first | exact HB.out | apply qF | apply qC | apply qE | refine qB ?_ GE194.out | refine qB ?_ GE195.out) | exact HB.out)))); have n2_ := Aside0.mk (qJ (g := gb194) (o := .cells #[.slice A0_0 l0_0.length c0_0, .slice A0_1 l0_1.length c0_1, .int .i64 a0_2, .int .i64 a0_3] 26 (0, 0)) (bw_ BK194.out) hb); have n3_ := Aside0.mk (qJ (g := gb195) (o := .cells #[.slice none 0 0, .slice none 0 0, .int .i64 0, .int .i64 0] 26 (0, 0)) (bw_ BK195.out) hb); have n4_ := Aside0.mk (qN (by repeat (first | (with_reducible first | exact HB.out | apply qF | apply qC | apply qE | refine qB ?_ GE194.out | refine qB ?_ GE195.out) | exact HB.out)) hb); clear BK194; clear BK195; clear HB; have HO198 := n0_; have HO201 := n1_; have BK194 := n2_; have BK195 := n3_; have HB := n4_; clear n0_ n1_ n2_ n3_ n4_; (try clear hb); (try clear hb2); (try clear hk); (try clear hi); (try clear ho0); (try clear ho1)) | ((with_reducible refine zB (N := 3) rfl ?_); refine qZ ?hg (N := 3) ?hd (cs := #[.slice none 0 0, .slice none 0 0, .int .i64 0, .int .i64 0]) (t := 26) ?hr ?_; (case hd => rfl); (case hg => rfl); (case hr => first | (go_simp; done) | (go_simp; rfl)); intro gb204 hg w9 hbox hb; have n0_ := Aside0.mk (Kd.qU (rw_ HO198.out) hb); have n1_ := Aside0.mk (Kd.qU (rw_ HO201.out) hb); have n2_ := Aside0.mk (qJ (g := gb194) (o := .cells #[.slice A0_0 l0_0.length c0_0, .slice A0_1 l0_1.length c0_1, .int .i64 a0_2, .int .i64 a0_3] 26 (0, 0)) (bw_ BK194.out) hb); have n3_ := Aside0.mk (qJ (g := gb195) (o := .cells #[.slice none 0 0, .slice none 0 0, .int .i64 0, .int .i64 0] 26 (0, 0)) (bw_ BK195.out) hb); have n4_ := Aside0.mk (qN (by repeat (first | (with_reducible first | exact HB.out | apply qF | apply qC | apply qE | refine qB ?_ GE194.out | refine qB ?_ GE195.out) | exact HB.out)) hb); have n5_ := Aside0.mk (hbox); have n6_ := Aside0.mk ((by rw [hg]; exact (qM (by repeat (first | (with_reducible first | exact HB.out | apply qF | apply qC | apply qE | refine qB ?_ GE194.out | refine qB ?_ GE195.out) | exact HB.out))) : w.heap.size ≤ gb204)); have n7_ := Aside0.mk ((by rw [hg]; exact (qM (by repeat (first | (with_reducible first | exact HB.out | apply qF | apply qC | apply qE | refine qB ?_ GE194.out | refine qB ?_ GE195.out) | exact HB.out))) : w.heap.size ≤ gb204)); have n8_ := Aside0.mk ((by rw [hg]; exact Nat.ne_of_lt (zE (g := gb194) (o := .cells #[.slice A0_0 l0_0.length c0_0, .slice A0_1 l0_1.length c0_1, .int .i64 a0_2, .int .i64 a0_3] 26 (0, 0)) (bw_ BK194.out)) : gb194 ≠ gb204)); have n9_ := Aside0.mk ((by rw [hg]; exact Nat.ne_of_gt (zE (g := gb194) (o := .cells #[.slice A0_0 l0_0.length c0_0, .slice A0_1 l0_1.length c0_1, .int .i64 a0_2, .int .i64 a0_3] 26 (0, 0)) (bw_ BK194.out)) : gb204 ≠ gb194)); have n10_ := Aside0.mk ((by rw [hg]; exact Nat.ne_of_lt (zE (g := gb195) (o := .cells #[.slice none 0 0, .slice none 0 0, .int .i64 0, .int .i64 0] 26 (0, 0)) (bw_ BK195.out)) : gb195 ≠ gb204)); have n11_ := Aside0.mk ((by rw [hg]; exact Nat.ne_of_gt (zE (g := gb195) (o := .cells #[.slice none 0 0, .slice none 0 0, .int .i64 0, .int .i64 0] 26 (0, 0)) (bw_ BK195.out)) : gb204 ≠ gb195)); clear HO198; clear HO201; clear BK194; clear BK195; clear HB; have HO198 := n0_; have HO201 := n1_; have BK194 := n2_; have BK195 := n3_; have HB := n4_; have BK204 := n5_; have GW204 := n6_; have GE204 := n7_; have NB194_204 := n8_; have NB204_194 := n9_; have NB195_204 := n10_; have NB204_195 := n11_; clear n0_ n1_ n2_ n3_ n4_ n5_ n6_ n7_ n8_ n9_ n10_ n11_; clear hb hbox hg; obtain ⟨Ao10, co10, eo10⟩ := Kd.zG HO198.out; subst eo10; have hnb11 := NB204_194.out; have hnc11 := NB194_204.out; have hnb12 := NB204_195.out; have hnc12 := NB195_204.out; have hcz13_0 : w9.cell? ⟨gb204, 0, none⟩ = some (.slice none 0 0) := (qA BK204.out 0).trans rfl; have hcz13_1 : w9.cell? ⟨gb204, 1, none⟩ = some (.slice none 0 0) := (qA BK204.out 1).trans rfl; have hcz13_2 : w9.cell? ⟨gb204, 2, none⟩ = some (.int .i64 0) := (qA BK204.out 2).trans rfl; have hcz13_3 : w9.cell? ⟨gb204, 3, none⟩ = some (.int .i64 0) := (qA BK204.out 3).trans rfl; have hfz13_0 := qD BK204.out 0; have hfz13_1 := qD BK204.out 1; have hfz13_2 := qD BK204.out 2; have hfz13_3 := qD BK204.out 3; obtain ⟨Ao14, co14, eo14⟩ := Kd.zG HO201.out; subst eo14; have hcz15_0 : w9.cell? ⟨gb194, 0, none⟩ = some (.slice A0_0 l0_0.length c0_0) := (qA BK194.out 0).trans rfl; have hcz15_1 : w9.cell? ⟨gb194, 1, none⟩ = some (.slice A0_1 l0_1.length c0_1) := (qA BK194.out 1).trans rfl; have hcz15_2 : w9.cell? ⟨gb194, 2, none⟩ = some (.int .i64 a0_2) := (qA BK194.out 2).trans rfl; have hcz15_3 : w9.cell? ⟨gb194, 3, none⟩ = some (.int .i64 a0_3) := (qA BK194.out 3).trans rfl; have hfz15_0 := qD BK194.out 0; have hfz15_1 := qD BK194.out 1; have hfz15_2 := qD BK194.out 2; have hfz15_3 := qD BK194.out 3; have hcz16_0 : w9.cell? ⟨gb195, 0, none⟩ = some (.slice none 0 0) := (qA BK195.out 0).trans rfl; have hcz16_1 : w9.cell? ⟨gb195, 1, none⟩ = some (.slice none 0 0) := (qA BK195.out 1).trans rfl; have hcz16_2 : w9.cell? ⟨gb195, 2, none⟩ = some (.int .i64 0) := (qA BK195.out 2).trans rfl; have hcz16_3 : w9.cell? ⟨gb195, 3, none⟩ = some (.int .i64 0) := (qA BK195.out 3).trans rfl; have hfz16_0 := qD BK195.out 0; have hfz16_1 := qD BK195.out 1; have hfz16_2 := qD BK195.out 2; have hfz16_3 := qD BK195.out 3))
    refine bodyPost_ret (results_cell_row rfl _ _ gb195 26 #[.slice Ao10 t196.length co10, .slice Ao14 t199.length co14, .int .i64 t202, .int .i64 t203] (0, 0) _ rfl (by (with_reducible repeat (first | refine qH ?_ _ | refine qI ?_ | refine qG ?_ _)); refine qP (cs := #[.slice Ao10 t196.length co10, .slice Ao14 t199.length co14, .int .i64 t202, .int .i64 0]) ?_ 3 _ rfl; (with_reducible repeat (first | refine qH ?_ _ | refine qI ?_ | refine qG ?_ _)); refine qP (cs := #[.slice Ao10 t196.length co10, .slice Ao14 t199.length co14, .int .i64 0, .int .i64 0]) ?_ 2 _ rfl; (with_reducible repeat (first | refine qH ?_ _ | refine qI ?_ | refine qG ?_ _)); refine qP (cs := #[.slice Ao10 t196.length co10, .slice none 0 0, .int .i64 0, .int .i64 0]) ?_ 1 _ rfl; (with_reducible repeat (first | refine qH ?_ _ | refine qI ?_ | refine qG ?_ _)); refine qP (cs := #[.slice none 0 0, .slice none 0 0, .int .i64 0, .int .i64 0]) ?_ 0 _ rfl; (with_reducible repeat (first | refine qH ?_ _ | refine qI ?_ | refine qG ?_ _)); refine qR ?_ NB195_204.out _; (with_reducible repeat (first | refine qH ?_ _ | refine qI ?_ | refine qG ?_ _)); refine qR ?_ NB195_204.out _; (with_reducible repeat (first | refine qH ?_ _ | refine qI ?_ | refine qG ?_ _)); refine qR ?_ NB195_204.out _; (with_reducible repeat (first | refine qH ?_ _ | refine qI ?_ | refine qG ?_ _)); refine qR ?_ NB195_204.out _; (with_reducible repeat (first | refine qH ?_ _ | refine qI ?_ | refine qG ?_ _)); exact BK195.out) Try.underlying26 rfl (by kernel_rfl)) rfl ?_
    exact ⟨_, _, by first | rfl | (simp [errW_none, errW_some] <;> rfl) | (simp [*, errW_none, errW_some] <;> rfl), by (with_reducible repeat (first | apply Kd.qX | apply Kd.qV | apply Kd.qW)); exact Kd.qS (Kd.R_far (p := ⟨gb195, 3, none⟩) (Kd.R_far (p := ⟨gb195, 2, none⟩) (Kd.R_far (p := ⟨gb195, 1, none⟩) (Kd.R_far (p := ⟨gb195, 0, none⟩) (Kd.R_far (p := ⟨gb204, 3, none⟩) (Kd.R_far (p := ⟨gb204, 2, none⟩) (Kd.R_far (p := ⟨gb204, 1, none⟩) (Kd.R_far (p := ⟨gb204, 0, none⟩) (Kd.qY (Kd.qY HO198.out BK204.out (by decide)) BK195.out (by decide)) (fun _ hk => hk.1.2) (.slice Ao10 t196.length co10)) (fun _ hk => hk.1.2) (.slice Ao14 t199.length co14)) (fun _ hk => hk.1.2) (.int .i64 t202)) (fun _ hk => hk.1.2) (.int .i64 t203)) (fun _ hk => hk.2) (.slice Ao10 t196.length co10)) (fun _ hk => hk.2) (.slice Ao14 t199.length co14)) (fun _ hk => hk.2) (.int .i64 t202)) (fun _ hk => hk.2) (.int .i64 t203)) (fun _ hk => trivial), by (with_reducible repeat (first | apply Kd.qX | apply Kd.qV | apply Kd.qW)); exact Kd.qS (Kd.R_far (p := ⟨gb195, 3, none⟩) (Kd.R_far (p := ⟨gb195, 2, none⟩) (Kd.R_far (p := ⟨gb195, 1, none⟩) (Kd.R_far (p := ⟨gb195, 0, none⟩) (Kd.R_far (p := ⟨gb204, 3, none⟩) (Kd.R_far (p := ⟨gb204, 2, none⟩) (Kd.R_far (p := ⟨gb204, 1, none⟩) (Kd.R_far (p := ⟨gb204, 0, none⟩) (Kd.qY (Kd.qY HO201.out BK204.out (by decide)) BK195.out (by decide)) (fun _ hk => hk.1.2) (.slice Ao10 t196.length co10)) (fun _ hk => hk.1.2) (.slice Ao14 t199.length co14)) (fun _ hk => hk.1.2) (.int .i64 t202)) (fun _ hk => hk.1.2) (.int .i64 t203)) (fun _ hk => hk.2) (.slice Ao10 t196.length co10)) (fun _ hk => hk.2) (.slice Ao14 t199.length co14)) (fun _ hk => hk.2) (.int .i64 t202)) (fun _ hk => hk.2) (.int .i64 t203)) (fun _ hk => trivial), by repeat (first | (with_reducible first | exact HB.out | apply qF | apply qC | apply qE | refine qB ?_ GE194.out | refine qB ?_ GE195.out | refine qB ?_ GE204.out) | exact HB.out)⟩
  · rw [if_neg c3] at H
    have c3b0 : (a0_3 == 0) = false := beq_eq_false_iff_ne.mpr c3
    have c3b1 : (a0_3 != 0) = true := bne_iff_ne.mpr c3
    have H' := Aside0.mk H
    clear H
    go_enter Try.func61, Try.ntmps61
    go_wp2_with (first | ((with_reducible refine zB (N := 1) rfl ?_); refine qZ ?hg (N := 1) ?hd (cs := #[.slice A0_0 l0_0.length c0_0, .slice A0_1 l0_1.length c0_1, .int .i64 a0_2, .int .i64 a0_3]) (t := 26) ?hr ?_; (case hd => rfl); (case hg => rfl); (case hr => first | (go_simp; done) | (go_simp; rfl)); intro gb194 hg w17 hbox hb; have n0_ := Aside0.mk (qN (by repeat (first | (with_reducible first | exact HB.out | apply qF | apply qC | apply qE) | exact HB.out)) hb); have n1_ := Aside0.mk (hbox); have n2_ := Aside0.mk ((by rw [hg]; exact (qM (by repeat (first | (with_reducible first | exact HB.out | apply qF | apply qC | apply qE) | exact HB.out))) : w.heap.size ≤ gb194)); have n3_ := Aside0.mk ((by rw [hg]; exact (qM (by repeat (first | (with_reducible first | exact HB.out | apply qF | apply qC | apply qE) | exact HB.out))) : w.heap.size ≤ gb194)); clear HB; have HB := n0_; have BK194 := n1_; have GW194 := n2_; have GE194 := n3_; clear n0_ n1_ n2_ n3_; clear hb hbox hg) | ((with_reducible refine zB (N := 2) rfl ?_); refine qZ ?hg (N := 2) ?hd (cs := #[.slice none 0 0, .slice none 0 0, .int .i64 0, .int .i64 0]) (t := 26) ?hr ?_; (case hd => rfl); (case hg => rfl); (case hr => first | (go_simp; done) | (go_simp; rfl)); intro gb195 hg w18 hbox hb; have n0_ := Aside0.mk (qJ (g := gb194) (o := .cells #[.slice A0_0 l0_0.length c0_0, .slice A0_1 l0_1.length c0_1, .int .i64 a0_2, .int .i64 a0_3] 26 (0, 0)) (bw_ BK194.out) hb); have n1_ := Aside0.mk (qN (by repeat (first | (with_reducible first | exact HB.out | apply qF | apply qC | apply qE | refine qB ?_ GE194.out) | exact HB.out)) hb); have n2_ := Aside0.mk (hbox); have n3_ := Aside0.mk ((by rw [hg]; exact (qM (by repeat (first | (with_reducible first | exact HB.out | apply qF | apply qC | apply qE | refine qB ?_ GE194.out) | exact HB.out))) : w.heap.size ≤ gb195)); have n4_ := Aside0.mk ((by rw [hg]; exact (qM (by repeat (first | (with_reducible first | exact HB.out | apply qF | apply qC | apply qE | refine qB ?_ GE194.out) | exact HB.out))) : w.heap.size ≤ gb195)); have n5_ := Aside0.mk ((by rw [hg]; exact Nat.ne_of_lt (zE (g := gb194) (o := .cells #[.slice A0_0 l0_0.length c0_0, .slice A0_1 l0_1.length c0_1, .int .i64 a0_2, .int .i64 a0_3] 26 (0, 0)) (bw_ BK194.out)) : gb194 ≠ gb195)); have n6_ := Aside0.mk ((by rw [hg]; exact Nat.ne_of_gt (zE (g := gb194) (o := .cells #[.slice A0_0 l0_0.length c0_0, .slice A0_1 l0_1.length c0_1, .int .i64 a0_2, .int .i64 a0_3] 26 (0, 0)) (bw_ BK194.out)) : gb195 ≠ gb194)); clear BK194; clear HB; have BK194 := n0_; have HB := n1_; have BK195 := n2_; have GW195 := n3_; have GE195 := n4_; have NB194_195 := n5_; have NB195_194 := n6_; clear n0_ n1_ n2_ n3_ n4_ n5_ n6_; clear hb hbox hg; have hnb19 := NB194_195.out; have hnc19 := NB195_194.out; have hcz20_0 : w18.cell? ⟨gb194, 0, none⟩ = some (.slice A0_0 l0_0.length c0_0) := (qA BK194.out 0).trans rfl; have hcz20_1 : w18.cell? ⟨gb194, 1, none⟩ = some (.slice A0_1 l0_1.length c0_1) := (qA BK194.out 1).trans rfl; have hcz20_2 : w18.cell? ⟨gb194, 2, none⟩ = some (.int .i64 a0_2) := (qA BK194.out 2).trans rfl; have hcz20_3 : w18.cell? ⟨gb194, 3, none⟩ = some (.int .i64 a0_3) := (qA BK194.out 3).trans rfl; have hfz20_0 := qD BK194.out 0; have hfz20_1 := qD BK194.out 1; have hfz20_2 := qD BK194.out 2; have hfz20_3 := qD BK194.out 3) | ((with_reducible refine qT (f := 38) rfl ?_); refine zL (some 6) rfl rfl Try.func38 (by kernel_rfl) rfl #[.agg #[.slice A0_0 l0_0.length c0_0, .slice A0_1 l0_1.length c0_1, .int .i64 a0_2, .int .i64 a0_3]] rfl (by (try simp only [List.map_toArray, List.map_cons, List.map_nil]); first | done | rfl | (simp only [List.length_drop, List.length_take]; rfl)) ?_; (with_reducible refine (spec_l7Copy.calls _ _ l0_0 _ _ l0_1 a0_2 a0_3 t196 t199 t202 t203 _ ?side1 ?side2 ?side3 ?side4 A2.out).mono ?_); (case side1 => repeat (first | exact (Kd.zI HR0_0.out HB.out) | (with_reducible refine Kd.zC ?_ _) | (with_reducible refine Kd.zD ?_ _) | (with_reducible refine Kd.zH ?_))); (case side2 => exact HC0_0.out); (case side3 => repeat (first | exact (Kd.zI HR0_1.out HB.out) | (with_reducible refine Kd.zC ?_ _) | (with_reducible refine Kd.zD ?_ _) | (with_reducible refine Kd.zH ?_))); (case side4 => exact HC0_1.out); rintro e w21 ⟨v197, v200, rfl, ho0, ho1, hb⟩; refine ⟨_, rfl, ?_⟩; have n0_ := Aside0.mk (Kd.zJ ho0 (qM (by repeat (first | (with_reducible first | exact HB.out | apply qF | apply qC | apply qE | refine qB ?_ GE194.out | refine qB ?_ GE195.out) | exact HB.out)))); have n1_ := Aside0.mk (Kd.zJ ho1 (qM (by repeat (first | (with_reducible first | exact HB.out | apply qF | apply qC | apply qE | refine qB ?_ GE194.out | refine qB ?_ GE195.out) | exact HB.out)))); have n2_ := Aside0.mk (qJ (g := gb194) (o := .cells #[.slice A0_0 l0_0.length c0_0, .slice A0_1 l0_1.length c0_1, .int .i64 a0_2, .int .i64 a0_3] 26 (0, 0)) (bw_ BK194.out) hb); have n3_ := Aside0.mk (qJ (g := gb195) (o := .cells #[.slice none 0 0, .slice none 0 0, .int .i64 0, .int .i64 0] 26 (0, 0)) (bw_ BK195.out) hb); have n4_ := Aside0.mk (qN (by repeat (first | (with_reducible first | exact HB.out | apply qF | apply qC | apply qE | refine qB ?_ GE194.out | refine qB ?_ GE195.out) | exact HB.out)) hb); clear BK194; clear BK195; clear HB; have HO198 := n0_; have HO201 := n1_; have BK194 := n2_; have BK195 := n3_; have HB := n4_; clear n0_ n1_ n2_ n3_ n4_; (try clear hb); (try clear hb2); (try clear hk); (try clear hi); (try clear ho0); (try clear ho1)) | ((with_reducible refine zB (N := 3) rfl ?_); refine qZ ?hg (N := 3) ?hd (cs := #[.slice none 0 0, .slice none 0 0, .int .i64 0, .int .i64 0]) (t := 26) ?hr ?_; (case hd => rfl); (case hg => rfl); (case hr => first | (go_simp; done) | (go_simp; rfl)); intro gb204 hg w22 hbox hb; have n0_ := Aside0.mk (Kd.qU (rw_ HO198.out) hb); have n1_ := Aside0.mk (Kd.qU (rw_ HO201.out) hb); have n2_ := Aside0.mk (qJ (g := gb194) (o := .cells #[.slice A0_0 l0_0.length c0_0, .slice A0_1 l0_1.length c0_1, .int .i64 a0_2, .int .i64 a0_3] 26 (0, 0)) (bw_ BK194.out) hb); have n3_ := Aside0.mk (qJ (g := gb195) (o := .cells #[.slice none 0 0, .slice none 0 0, .int .i64 0, .int .i64 0] 26 (0, 0)) (bw_ BK195.out) hb); have n4_ := Aside0.mk (qN (by repeat (first | (with_reducible first | exact HB.out | apply qF | apply qC | apply qE | refine qB ?_ GE194.out | refine qB ?_ GE195.out) | exact HB.out)) hb); have n5_ := Aside0.mk (hbox); have n6_ := Aside0.mk ((by rw [hg]; exact (qM (by repeat (first | (with_reducible first | exact HB.out | apply qF | apply qC | apply qE | refine qB ?_ GE194.out | refine qB ?_ GE195.out) | exact HB.out))) : w.heap.size ≤ gb204)); have n7_ := Aside0.mk ((by rw [hg]; exact (qM (by repeat (first | (with_reducible first | exact HB.out | apply qF | apply qC | apply qE | refine qB ?_ GE194.out | refine qB ?_ GE195.out) | exact HB.out))) : w.heap.size ≤ gb204)); have n8_ := Aside0.mk ((by rw [hg]; exact Nat.ne_of_lt (zE (g := gb194) (o := .cells #[.slice A0_0 l0_0.length c0_0, .slice A0_1 l0_1.length c0_1, .int .i64 a0_2, .int .i64 a0_3] 26 (0, 0)) (bw_ BK194.out)) : gb194 ≠ gb204)); have n9_ := Aside0.mk ((by rw [hg]; exact Nat.ne_of_gt (zE (g := gb194) (o := .cells #[.slice A0_0 l0_0.length c0_0, .slice A0_1 l0_1.length c0_1, .int .i64 a0_2, .int .i64 a0_3] 26 (0, 0)) (bw_ BK194.out)) : gb204 ≠ gb194)); have n10_ := Aside0.mk ((by rw [hg]; exact Nat.ne_of_lt (zE (g := gb195) (o := .cells #[.slice none 0 0, .slice none 0 0, .int .i64 0, .int .i64 0] 26 (0, 0)) (bw_ BK195.out)) : gb195 ≠ gb204)); have n11_ := Aside0.mk ((by rw [hg]; exact Nat.ne_of_gt (zE (g := gb195) (o := .cells #[.slice none 0 0, .slice none 0 0, .int .i64 0, .int .i64 0] 26 (0, 0)) (bw_ BK195.out)) : gb204 ≠ gb195)); clear HO198; clear HO201; clear BK194; clear BK195; clear HB; have HO198 := n0_; have HO201 := n1_; have BK194 := n2_; have BK195 := n3_; have HB := n4_; have BK204 := n5_; have GW204 := n6_; have GE204 := n7_; have NB194_204 := n8_; have NB204_194 := n9_; have NB195_204 := n10_; have NB204_195 := n11_; clear n0_ n1_ n2_ n3_ n4_ n5_ n6_ n7_ n8_ n9_ n10_ n11_; clear hb hbox hg; obtain ⟨Ao23, co23, eo23⟩ := Kd.zG HO198.out; subst eo23; have hnb24 := NB204_194.out; have hnc24 := NB194_204.out; have hnb25 := NB204_195.out; have hnc25 := NB195_204.out; have hcz26_0 : w22.cell? ⟨gb204, 0, none⟩ = some (.slice none 0 0) := (qA BK204.out 0).trans rfl; have hcz26_1 : w22.cell? ⟨gb204, 1, none⟩ = some (.slice none 0 0) := (qA BK204.out 1).trans rfl; have hcz26_2 : w22.cell? ⟨gb204, 2, none⟩ = some (.int .i64 0) := (qA BK204.out 2).trans rfl; have hcz26_3 : w22.cell? ⟨gb204, 3, none⟩ = some (.int .i64 0) := (qA BK204.out 3).trans rfl; have hfz26_0 := qD BK204.out 0; have hfz26_1 := qD BK204.out 1; have hfz26_2 := qD BK204.out 2; have hfz26_3 := qD BK204.out 3; obtain ⟨Ao27, co27, eo27⟩ := Kd.zG HO201.out; subst eo27; have hcz28_0 : w22.cell? ⟨gb194, 0, none⟩ = some (.slice A0_0 l0_0.length c0_0) := (qA BK194.out 0).trans rfl; have hcz28_1 : w22.cell? ⟨gb194, 1, none⟩ = some (.slice A0_1 l0_1.length c0_1) := (qA BK194.out 1).trans rfl; have hcz28_2 : w22.cell? ⟨gb194, 2, none⟩ = some (.int .i64 a0_2) := (qA BK194.out 2).trans rfl; have hcz28_3 : w22.cell? ⟨gb194, 3, none⟩ = some (.int .i64 a0_3) := (qA BK194.out 3).trans rfl; have hfz28_0 := qD BK194.out 0; have hfz28_1 := qD BK194.out 1; have hfz28_2 := qD BK194.out 2; have hfz28_3 := qD BK194.out 3))
    go_loopg [4] k (fun kq v4 w' => ∃ (x4_1 : Int) (x205000_1 : List ByteArray) (u205000 : Value), v4 = .int .i64 x4_1 ∧ Aside0 (spec_l7Sync.l0 kq x4_1 l0_0 l0_1 a0_2 a0_3 x205000_1 t199 t202 t203 = some (r1, r2, r3, r4)) ∧ Aside0 (kq ≤ k) ∧ Aside0 (Kd.R Kd.string 9 w' w.heap.size (fun _ => True) u205000 x205000_1) ∧ Aside0 (Kd.R k70 70 w' w.heap.size (fun _ => True) (.slice Ao27 t199.length co27) t199) ∧ Aside0 (w'.heap[gb194]? = some (.cells #[(.slice A0_0 l0_0.length c0_0), (.slice A0_1 l0_1.length c0_1), .int .i64 a0_2, .int .i64 a0_3] 26 (0, 0))) ∧ Aside0 (w'.heap[gb195]? = some (.cells #[(.slice none 0 0), (.slice none 0 0), .int .i64 0, .int .i64 0] 26 (0, 0))) ∧ Aside0 (w'.heap[gb204]? = some (.cells #[u205000, (.slice Ao27 t199.length co27), .int .i64 t202, .int .i64 t203] 26 (0, 0))) ∧ Aside0 (Below w.heap.size w w'))
    case atStart => exact ⟨(0), (t196), (.slice Ao23 t196.length co23), (by first | rfl | (simp; done) | (simp [*]; done)), H', ⟨Nat.le_refl _⟩, ⟨by (with_reducible repeat (first | apply Kd.qX | apply Kd.qV | apply Kd.qW)); exact Kd.qS (Kd.R_far (p := ⟨gb204, 3, none⟩) (Kd.R_far (p := ⟨gb204, 2, none⟩) (Kd.R_far (p := ⟨gb204, 1, none⟩) (Kd.R_far (p := ⟨gb204, 0, none⟩) (Kd.qY HO198.out BK204.out (by decide)) (fun _ hk => hk.2) (.slice Ao23 t196.length co23)) (fun _ hk => hk.2) (.slice Ao27 t199.length co27)) (fun _ hk => hk.2) (.int .i64 t202)) (fun _ hk => hk.2) (.int .i64 t203)) (fun _ hk => trivial)⟩, ⟨by (with_reducible repeat (first | apply Kd.qX | apply Kd.qV | apply Kd.qW)); exact Kd.qS (Kd.R_far (p := ⟨gb204, 3, none⟩) (Kd.R_far (p := ⟨gb204, 2, none⟩) (Kd.R_far (p := ⟨gb204, 1, none⟩) (Kd.R_far (p := ⟨gb204, 0, none⟩) (Kd.qY HO201.out BK204.out (by decide)) (fun _ hk => hk.2) (.slice Ao23 t196.length co23)) (fun _ hk => hk.2) (.slice Ao27 t199.length co27)) (fun _ hk => hk.2) (.int .i64 t202)) (fun _ hk => hk.2) (.int .i64 t203)) (fun _ hk => trivial)⟩, ⟨by (with_reducible repeat (first | refine qH ?_ _ | refine qI ?_ | refine qG ?_ _)); refine qR ?_ NB194_204.out _; (with_reducible repeat (first | refine qH ?_ _ | refine qI ?_ | refine qG ?_ _)); refine qR ?_ NB194_204.out _; (with_reducible repeat (first | refine qH ?_ _ | refine qI ?_ | refine qG ?_ _)); refine qR ?_ NB194_204.out _; (with_reducible repeat (first | refine qH ?_ _ | refine qI ?_ | refine qG ?_ _)); refine qR ?_ NB194_204.out _; (with_reducible repeat (first | refine qH ?_ _ | refine qI ?_ | refine qG ?_ _)); exact BK194.out⟩, ⟨by (with_reducible repeat (first | refine qH ?_ _ | refine qI ?_ | refine qG ?_ _)); refine qR ?_ NB195_204.out _; (with_reducible repeat (first | refine qH ?_ _ | refine qI ?_ | refine qG ?_ _)); refine qR ?_ NB195_204.out _; (with_reducible repeat (first | refine qH ?_ _ | refine qI ?_ | refine qG ?_ _)); refine qR ?_ NB195_204.out _; (with_reducible repeat (first | refine qH ?_ _ | refine qI ?_ | refine qG ?_ _)); refine qR ?_ NB195_204.out _; (with_reducible repeat (first | refine qH ?_ _ | refine qI ?_ | refine qG ?_ _)); exact BK195.out⟩, ⟨by (with_reducible repeat (first | refine qH ?_ _ | refine qI ?_ | refine qG ?_ _)); refine qP (cs := #[.slice Ao23 t196.length co23, .slice Ao27 t199.length co27, .int .i64 t202, .int .i64 0]) ?_ 3 _ rfl; (with_reducible repeat (first | refine qH ?_ _ | refine qI ?_ | refine qG ?_ _)); refine qP (cs := #[.slice Ao23 t196.length co23, .slice Ao27 t199.length co27, .int .i64 0, .int .i64 0]) ?_ 2 _ rfl; (with_reducible repeat (first | refine qH ?_ _ | refine qI ?_ | refine qG ?_ _)); refine qP (cs := #[.slice Ao23 t196.length co23, .slice none 0 0, .int .i64 0, .int .i64 0]) ?_ 1 _ rfl; (with_reducible repeat (first | refine qH ?_ _ | refine qI ?_ | refine qG ?_ _)); refine qP (cs := #[.slice none 0 0, .slice none 0 0, .int .i64 0, .int .i64 0]) ?_ 0 _ rfl; (with_reducible repeat (first | refine qH ?_ _ | refine qI ?_ | refine qG ?_ _)); exact BK204.out⟩, ⟨by repeat (first | (with_reducible first | exact HB.out | apply qF | apply qC | apply qE | refine qB ?_ GE194.out | refine qB ?_ GE195.out | refine qB ?_ GE204.out) | exact HB.out)⟩⟩
    case round =>
      clear H'
      try clear c1
      try clear c2
      try clear p2
      try clear c3
      try clear c3b0
      try clear c3b1
      try clear c6
      try clear c11
      try clear c12
      try clear c19
      try clear c24
      try clear c25
      try clear hcz13_0
      try clear hcz13_1
      try clear hcz13_2
      try clear hcz13_3
      try clear hcz15_0
      try clear hcz15_1
      try clear hcz15_2
      try clear hcz15_3
      try clear hcz16_0
      try clear hcz16_1
      try clear hcz16_2
      try clear hcz16_3
      try clear hcz20_0
      try clear hcz20_1
      try clear hcz20_2
      try clear hcz20_3
      try clear hcz26_0
      try clear hcz26_1
      try clear hcz26_2
      try clear hcz26_3
      try clear hcz28_0
      try clear hcz28_1
      try clear hcz28_2
      try clear hcz28_3
      try clear hcz7_0
      try clear hcz7_1
      try clear hcz7_2
      try clear hcz7_3
      try clear hfz13_0
      try clear hfz13_1
      try clear hfz13_2
      try clear hfz13_3
      try clear hfz15_0
      try clear hfz15_1
      try clear hfz15_2
      try clear hfz15_3
      try clear hfz16_0
      try clear hfz16_1
      try clear hfz16_2
      try clear hfz16_3
      try clear hfz20_0
      try clear hfz20_1
      try clear hfz20_2
      try clear hfz20_3
      try clear hfz26_0
      try clear hfz26_1
      try clear hfz26_2
      try clear hfz26_3
      try clear hfz28_0
      try clear hfz28_1
      try clear hfz28_2
      try clear hfz28_3
      try clear hfz7_0
      try clear hfz7_1
      try clear hfz7_2
      try clear hfz7_3
      obtain ⟨x4_1, x205000_1, u205000, rfl, HA, HK1, HO_205000, HO_205001, BK194, BK195, BK204, HB⟩ := hrel
      cases gk with
      | zero => exact absurd HA.out (by simp [spec_l7Sync.l0])
      | succ k1 =>
        have H := HA.out
        clear HA
        simp only [spec_l7Sync.l0] at H
        by_cases c29 : x4_1 < (l0_1.length : Int)
        · rw [if_pos c29] at H
          have c29b0 : decide (x4_1 < (l0_1.length : Int)) = true := decide_eq_true c29
          clear c29
          by_cases c30 : 0 ≤ x4_1
          · rw [if_pos c30] at H
            have c30b0 : decide (0 ≤ x4_1) = true := decide_eq_true c30
            clear c30
            by_cases c31 : 0 ≤ ((rd_T70 l0_1 x4_1).f0)
            · rw [if_pos c31] at H
              have c31b0 : decide (0 ≤ ((rd_T70 l0_1 x4_1).f0)) = true := decide_eq_true c31
              clear c31
              by_cases c32 : ((rd_T70 l0_1 x4_1).f0) < (x205000_1.length : Int)
              · rw [if_pos c32] at H
                have c32b0 : decide (((rd_T70 l0_1 x4_1).f0) < (x205000_1.length : Int)) = true := decide_eq_true c32
                clear c32
                obtain ⟨y207, hy207⟩ : ∃ y_ : List ByteArray, y_ = (x205000_1.set (((rd_T70 l0_1 x4_1).f0) : Int).toNat ((rd_T70 l0_1 x4_1).f1)) := ⟨_, rfl⟩
                replace H : (spec_l7Sync.l0 k1 (wrap64 (x4_1 + 1)) l0_0 l0_1 a0_2 a0_3 y207 t199 t202 t203) = some (r1, r2, r3, r4) := by first | (rw [hy207]; with_reducible exact H) | (have H2_ := (Option.bind_some _ _).symm.trans H; rw [hy207]; with_reducible exact H2_) | (have H2_ := (Option.bind_some _ _).symm.trans H; with_reducible exact H2_) | with_reducible exact H | (rw [hy207]; exact H) | exact H
                have Ny207 := Aside0.mk hy207
                clear hy207
                have H' := Aside0.mk H
                clear H
                have hnb34 := NB194_195.out
                have hnc34 := NB195_194.out
                have hnb35 := NB194_204.out
                have hnc35 := NB204_194.out
                have hcz36_0 : wr.cell? ⟨gb194, 0, none⟩ = some (.slice A0_0 l0_0.length c0_0) := (qA BK194.out 0).trans rfl
                have hcz36_1 : wr.cell? ⟨gb194, 1, none⟩ = some (.slice A0_1 l0_1.length c0_1) := (qA BK194.out 1).trans rfl
                have hcz36_2 : wr.cell? ⟨gb194, 2, none⟩ = some (.int .i64 a0_2) := (qA BK194.out 2).trans rfl
                have hcz36_3 : wr.cell? ⟨gb194, 3, none⟩ = some (.int .i64 a0_3) := (qA BK194.out 3).trans rfl
                have hfz36_0 := qD BK194.out 0
                have hfz36_1 := qD BK194.out 1
                have hfz36_2 := qD BK194.out 2
                have hfz36_3 := qD BK194.out 3
                try go_wp2
                have n0_ := Aside0.mk (Kd.qW HO_205000.out)
                have n1_ := Aside0.mk (Kd.qW HO_205001.out)
                have n2_ := Aside0.mk (qI BK194.out)
                have n3_ := Aside0.mk (qI BK195.out)
                have n4_ := Aside0.mk (qI BK204.out)
                have n5_ := Aside0.mk (qE HB.out)
                clear HO_205000
                clear HO_205001
                clear BK194
                clear BK195
                clear BK204
                clear HB
                have HO_205000 := n0_
                have HO_205001 := n1_
                have BK194 := n2_
                have BK195 := n3_
                have BK204 := n4_
                have HB := n5_
                clear n0_ n1_ n2_ n3_ n4_ n5_
                have p205 : 0 ≤ (x4_1 : Int) := of_decide_eq_true (by first | (with_reducible assumption) | assumption)
                have q205 : x4_1 < (l0_1.length : Int) := of_decide_eq_true (by first | (with_reducible assumption) | assumption)
                obtain ⟨ad205, e205, hx205_0, hx205_1⟩ := at_T70 HR0_1.out x4_1 p205 q205
                have hw205_1 := hx205_1
                have hw205_0 := hx205_0
                cases e205
                replace hx205_0 := (HB.out.cell (World.block_lt_of_cell? w _ hx205_0)).trans hx205_0
                replace hx205_1 := (HB.out.cell (World.block_lt_of_cell? w _ hx205_1)).trans hx205_1
                replace p205 := eq_true p205
                replace q205 := eq_true q205
                have p206 : 0 ≤ (x4_1 : Int) := of_decide_eq_true (by first | (with_reducible assumption) | assumption)
                have q206 : x4_1 < (l0_1.length : Int) := of_decide_eq_true (by first | (with_reducible assumption) | assumption)
                obtain ⟨ad206, e206, hx206_0, hx206_1⟩ := at_T70 HR0_1.out x4_1 p206 q206
                have hw206_1 := hx206_1
                have hw206_0 := hx206_0
                obtain rfl : ad205 = ad206 := (by injection e206)
                replace hx206_0 := (HB.out.cell (World.block_lt_of_cell? w _ hx206_0)).trans hx206_0
                replace hx206_1 := (HB.out.cell (World.block_lt_of_cell? w _ hx206_1)).trans hx206_1
                replace p206 := eq_true p206
                replace q206 := eq_true q206
                have p33 : 0 ≤ (((rd_T70 l0_1 x4_1).f0) : Int) := of_decide_eq_true (by first | (with_reducible assumption) | assumption)
                have q33 : (((rd_T70 l0_1 x4_1).f0) : Int) < ((x205000_1.length : Int) : Int) := of_decide_eq_true (by first | (with_reducible assumption) | assumption)
                obtain ⟨go33, co33, eo33, gb33, gl33, cl33, HG33⟩ := Kd.R_form HO_205000.out (by omega)
                (first | cases eo33 | (injection eo33 with ea_ en_ ec_; (first | subst ea_ | (injection ea_ with ea_; subst ea_)); subst ec_; clear en_))
                have GB33 := Aside0.mk gb33
                have GG33 := Aside0.mk HG33
                clear gb33 gl33 HG33
                obtain ⟨hx33_0, hf33_0⟩ := Kd.R_celln (⟨#[]⟩ : ByteArray) HO_205000.out (((rd_T70 l0_1 x4_1).f0) : Int) p33 q33
                replace p33 := eq_true p33
                replace q33 := eq_true q33
                have HP38 := Kd.R_putn HO_205000.out (((rd_T70 l0_1 x4_1).f0) : Int) ((rd_T70 l0_1 x4_1).f1)
                rw [← Ny207.out] at HP38
                have HQ38 := Aside0.mk HP38
                clear HP38
                refine start_ (n := 16) (S := fun w' => w'.cell? ⟨gb204, 0, none⟩ = some (.slice (some ⟨go33, 0, none⟩) x205000_1.length co33) ∧ w'.cell? ⟨gb204, 1, none⟩ = some (.slice Ao27 t199.length co27) ∧ w'.cell? ⟨gb204, 2, none⟩ = some (.int .i64 t202) ∧ w'.cell? ⟨gb204, 3, none⟩ = some (.int .i64 t203) ∧ w'.cell? ⟨gb194, 0, none⟩ = some (.slice A0_0 l0_0.length c0_0) ∧ w'.cell? ⟨gb194, 1, none⟩ = some (.slice (some ad205) l0_1.length c0_1) ∧ w'.cell? ⟨gb194, 2, none⟩ = some (.int .i64 a0_2) ∧ w'.cell? ⟨gb194, 3, none⟩ = some (.int .i64 a0_3) ∧ w'.cell? (ad205.add ((x4_1).toNat * 2)) = some (.int .i64 ((rd_T70 l0_1 x4_1).f0)) ∧ w'.cell? ⟨(ad205.add ((x4_1).toNat * 2)).block, (ad205.add ((x4_1).toNat * 2)).off + 1, none⟩ = some (.string ((rd_T70 l0_1 x4_1).f1)) ∧ w'.cell? (ad205.add ((x4_1).toNat * 2)) = some (.int .i64 ((rd_T70 l0_1 x4_1).f0)) ∧ w'.cell? ⟨(ad205.add ((x4_1).toNat * 2)).block, (ad205.add ((x4_1).toNat * 2)).off + 1, none⟩ = some (.string ((rd_T70 l0_1 x4_1).f1))) (ds := [15]) #[false, false, false, false, false, false, false, false, false, false, false, false, false, false, false, false] (by kernel_rfl) rfl rfl ⟨(qA BK204.out 0).trans rfl, (qA BK204.out 1).trans rfl, (qA BK204.out 2).trans rfl, (qA BK204.out 3).trans rfl, (qA BK194.out 0).trans rfl, (qA BK194.out 1).trans rfl, (qA BK194.out 2).trans rfl, (qA BK194.out 3).trans rfl, ((HB.out.cell (World.block_lt_of_cell? w _ hw205_0)).trans hw205_0), ((HB.out.cell (World.block_lt_of_cell? w _ hw205_1)).trans hw205_1), ((HB.out.cell (World.block_lt_of_cell? w _ hw206_0)).trans hw206_0), ((HB.out.cell (World.block_lt_of_cell? w _ hw206_1)).trans hw206_1)⟩ (fun hHeld => ?_); refine with_tabW spec_l7Sync.tab7 spec_l7Sync.bits7 (fun HT_ HW_ => ?_)
                generalize wr.drew = w37 at HO_205000 HO_205001 BK194 BK195 BK204 HB GG33 HQ38 hf33_0 hx205_0 hx205_1 hx206_0 hx206_1 hx33_0 hHeld ⊢
                refine pure_ (i := 0) (N := some 18) (v := ?_) (a' := ?_) #[true, false, false, false, false, false, false, false, false, false, false, false, false, false, false, false] rfl rfl (zK HT_.out (by kernel_rfl)) (fun _ _ _ h => h) (Or.inl ⟨by rfl, ?_⟩) ?_ ?_
                rotate_left
                · intro w'
                  go_simp
                  with_reducible rfl
                rotate_left
                · simp only [Act.put, List.setIfInBounds_toArray, List.set_cons_zero, List.set_cons_succ, i64_w, i32_w]
                  rfl
                refine pure_ (i := 2) (N := some 20) (v := ?_) (a' := ?_) #[true, false, true, false, false, false, false, false, false, false, false, false, false, false, false, false] rfl rfl (zK HT_.out (by kernel_rfl)) (fun _ _ _ h => h) (Or.inl ⟨by rfl, ?_⟩) ?_ ?_
                rotate_left
                · intro w'
                  go_simp
                  with_reducible rfl
                rotate_left
                · simp only [Act.put, List.setIfInBounds_toArray, List.set_cons_zero, List.set_cons_succ, i64_w, i32_w]
                  rfl
                refine pure_ (i := 4) (N := some 22) (v := ?_) (a' := ?_) #[true, false, true, false, true, false, false, false, false, false, false, false, false, false, false, false] rfl rfl (zK HT_.out (by kernel_rfl)) (fun _ _ _ h => h) (Or.inl ⟨by rfl, ?_⟩) ?_ ?_
                rotate_left
                · intro w'
                  go_simp
                  with_reducible rfl
                rotate_left
                · simp only [Act.put, List.setIfInBounds_toArray, List.set_cons_zero, List.set_cons_succ, i64_w, i32_w]
                  rfl
                refine pure_ (i := 8) (N := some 26) (v := ?_) (a' := ?_) #[true, false, true, false, true, false, false, false, true, false, false, false, false, false, false, false] rfl rfl (zK HT_.out (by kernel_rfl)) (fun _ _ _ h => h) (Or.inl ⟨by rfl, ?_⟩) ?_ ?_
                rotate_left
                · intro w'
                  go_simp
                  with_reducible rfl
                rotate_left
                · simp only [Act.put, List.setIfInBounds_toArray, List.set_cons_zero, List.set_cons_succ, i64_w, i32_w]
                  rfl
                refine pure_ (i := 10) (N := some 28) (v := ?_) (a' := ?_) #[true, false, true, false, true, false, false, false, true, false, true, false, false, false, false, false] rfl rfl (zK HT_.out (by kernel_rfl)) (fun _ _ _ h => h) (Or.inl ⟨by rfl, ?_⟩) ?_ ?_
                rotate_left
                · intro w'
                  go_simp
                  with_reducible rfl
                rotate_left
                · simp only [Act.put, List.setIfInBounds_toArray, List.set_cons_zero, List.set_cons_succ, i64_w, i32_w]
                  rfl
                refine take_ (i := 1) (N := some 19) (v := ?_) (a' := ?_) #[true, true, true, false, true, false, false, false, true, false, true, false, false, false, false, false] rfl rfl (zN HT_.out HW_.out (by kernel_rfl)) (fun _ _ _ h => h) (Or.inl ⟨by rfl, ?_⟩) hHeld ?_ ?_
                rotate_left
                · rintro w' ⟨s0, s1, s2, s3, s4, s5, s6, s7, s8, s9, s10, s11⟩
                  go_simp
                  with_reducible rfl
                rotate_left
                · simp only [Act.put, List.setIfInBounds_toArray, List.set_cons_zero, List.set_cons_succ, i64_w, i32_w]
                  rfl
                refine take_ (i := 3) (N := some 21) (v := ?_) (a' := ?_) #[true, true, true, true, true, false, false, false, true, false, true, false, false, false, false, false] rfl rfl (zN HT_.out HW_.out (by kernel_rfl)) (fun _ _ _ h => h) (Or.inl ⟨by rfl, ?_⟩) hHeld ?_ ?_
                rotate_left
                · rintro w' ⟨s0, s1, s2, s3, s4, s5, s6, s7, s8, s9, s10, s11⟩
                  go_simp
                  with_reducible rfl
                rotate_left
                · simp only [Act.put, List.setIfInBounds_toArray, List.set_cons_zero, List.set_cons_succ, i64_w, i32_w]
                  rfl
                refine pure_ (i := 5) (N := some 23) (v := ?_) (a' := ?_) #[true, true, true, true, true, true, false, false, true, false, true, false, false, false, false, false] rfl rfl (zK HT_.out (by kernel_rfl)) (fun _ _ _ h => h) (Or.inl ⟨by rfl, ?_⟩) ?_ ?_
                rotate_left
                · intro w'
                  go_simp
                  with_reducible rfl
                rotate_left
                · simp only [Act.put, List.setIfInBounds_toArray, List.set_cons_zero, List.set_cons_succ, i64_w, i32_w]
                  rfl
                refine pure_ (i := 6) (N := some 24) (v := ?_) (a' := ?_) #[true, true, true, true, true, true, true, false, true, false, true, false, false, false, false, false] rfl rfl (zK HT_.out (by kernel_rfl)) (fun _ _ _ h => h) (Or.inl ⟨by rfl, ?_⟩) ?_ ?_
                rotate_left
                · intro w'
                  go_simp
                  with_reducible rfl
                rotate_left
                · simp only [Act.put, List.setIfInBounds_toArray, List.set_cons_zero, List.set_cons_succ, i64_w, i32_w]
                  rfl
                refine take_ (i := 7) (N := some 25) (v := ?_) (a' := ?_) #[true, true, true, true, true, true, true, true, true, false, true, false, false, false, false, false] rfl rfl (zN HT_.out HW_.out (by kernel_rfl)) (fun _ _ _ h => h) (Or.inl ⟨by rfl, ?_⟩) hHeld ?_ ?_
                rotate_left
                · rintro w' ⟨s0, s1, s2, s3, s4, s5, s6, s7, s8, s9, s10, s11⟩
                  go_simp
                  with_reducible rfl
                rotate_left
                · simp only [Act.put, List.setIfInBounds_toArray, List.set_cons_zero, List.set_cons_succ, i64_w, i32_w]
                  rfl
                refine take_ (i := 9) (N := some 27) (v := ?_) (a' := ?_) #[true, true, true, true, true, true, true, true, true, true, true, false, false, false, false, false] rfl rfl (zN HT_.out HW_.out (by kernel_rfl)) (fun _ _ _ h => h) (Or.inl ⟨by rfl, ?_⟩) hHeld ?_ ?_
                rotate_left
                · rintro w' ⟨s0, s1, s2, s3, s4, s5, s6, s7, s8, s9, s10, s11⟩
                  go_simp
                  with_reducible rfl
                rotate_left
                · simp only [Act.put, List.setIfInBounds_toArray, List.set_cons_zero, List.set_cons_succ, i64_w, i32_w]
                  rfl
                refine pure_ (i := 11) (N := some 29) (v := ?_) (a' := ?_) #[true, true, true, true, true, true, true, true, true, true, true, true, false, false, false, false] rfl rfl (zK HT_.out (by kernel_rfl)) (fun _ _ _ h => h) (Or.inl ⟨by rfl, ?_⟩) ?_ ?_
                rotate_left
                · intro w'
                  go_simp
                  with_reducible rfl
                rotate_left
                · simp only [Act.put, List.setIfInBounds_toArray, List.set_cons_zero, List.set_cons_succ, i64_w, i32_w]
                  rfl
                refine pure_ (i := 12) (N := some 30) (v := ?_) (a' := ?_) #[true, true, true, true, true, true, true, true, true, true, true, true, true, false, false, false] rfl rfl (zK HT_.out (by kernel_rfl)) (fun _ _ _ h => h) (Or.inl ⟨by rfl, ?_⟩) ?_ ?_
                rotate_left
                · intro w'
                  go_simp
                  with_reducible rfl
                rotate_left
                · simp only [Act.put, List.setIfInBounds_toArray, List.set_cons_zero, List.set_cons_succ, i64_w, i32_w]
                  rfl
                refine take_ (i := 13) (N := some 31) (v := ?_) (a' := ?_) #[true, true, true, true, true, true, true, true, true, true, true, true, true, true, false, false] rfl rfl (zN HT_.out HW_.out (by kernel_rfl)) (fun _ _ _ h => h) (Or.inl ⟨by rfl, ?_⟩) hHeld ?_ ?_
                rotate_left
                · rintro w' ⟨s0, s1, s2, s3, s4, s5, s6, s7, s8, s9, s10, s11⟩
                  go_simp
                  with_reducible rfl
                rotate_left
                · simp only [Act.put, List.setIfInBounds_toArray, List.set_cons_zero, List.set_cons_succ, i64_w, i32_w]
                  rfl
                refine pure_ (i := 14) (N := some 32) (v := ?_) (a' := ?_) #[true, true, true, true, true, true, true, true, true, true, true, true, true, true, true, false] rfl rfl (zK HT_.out (by kernel_rfl)) (fun _ _ _ h => h) (Or.inl ⟨by rfl, ?_⟩) ?_ ?_
                rotate_left
                · intro w'
                  go_simp
                  with_reducible rfl
                rotate_left
                · simp only [Act.put, List.setIfInBounds_toArray, List.set_cons_zero, List.set_cons_succ, i64_w, i32_w]
                  rfl
                refine last_ (i := 15) (N := none) #[true, true, true, true, true, true, true, true, true, true, true, true, true, true, true, true] rfl rfl (zR HT_.out (by kernel_rfl)) (by decide) (fun K hK => ?_)
                refine skip_ (w1 := ?_) (by rfl) rfl ?_ ?_
                rotate_left
                · go_simp
                  rfl
                refine hK.out _ _ ?_
                clear hK K
                refine done_ (done_of HT_.out (by kernel_rfl)) ?_
                try go_wp2
                go_roundg k1
                case measure => have := HK1.out; omega
                case rel => exact ⟨(wrap64 (x4_1 + 1)), (y207), (.slice (some ⟨go33, 0, none⟩) x205000_1.length co33), (by first | rfl | (simp; done) | (simp [*]; done)), H', ⟨by have := HK1.out; omega⟩, ⟨by (with_reducible repeat (first | apply Kd.qX | apply Kd.qV | apply Kd.qW)); exact HQ38.out⟩, ⟨by (with_reducible repeat (first | apply Kd.qX | apply Kd.qV | apply Kd.qW)); exact Kd.qS (Kd.R_far (p := ⟨go33, (((rd_T70 l0_1 x4_1).f0) : Int).toNat, none⟩) (Kd.qY HO_205001.out GG33.out (by decide)) (fun _ hk => hk.2) (.string ((rd_T70 l0_1 x4_1).f1))) (fun _ hk => trivial)⟩, ⟨by (with_reducible repeat (first | refine qH ?_ _ | refine qI ?_ | refine qG ?_ _)); refine qR ?_ (by have h_ := Kd.R_ne HO_205000.out BK194.out (by decide); intro e_; exact h_ (by rw [e_]; rfl)) _; (with_reducible repeat (first | refine qH ?_ _ | refine qI ?_ | refine qG ?_ _)); exact BK194.out⟩, ⟨by (with_reducible repeat (first | refine qH ?_ _ | refine qI ?_ | refine qG ?_ _)); refine qR ?_ (by have h_ := Kd.R_ne HO_205000.out BK195.out (by decide); intro e_; exact h_ (by rw [e_]; rfl)) _; (with_reducible repeat (first | refine qH ?_ _ | refine qI ?_ | refine qG ?_ _)); exact BK195.out⟩, ⟨by (with_reducible repeat (first | refine qH ?_ _ | refine qI ?_ | refine qG ?_ _)); refine qR ?_ (by have h_ := Kd.R_ne HO_205000.out BK204.out (by decide); intro e_; exact h_ (by rw [e_]; rfl)) _; (with_reducible repeat (first | refine qH ?_ _ | refine qI ?_ | refine qG ?_ _)); exact BK204.out⟩, ⟨by repeat (first | (with_reducible first | exact HB.out | apply qF | apply qC | apply qE | refine qB ?_ GB33.out | refine qB ?_ GE194.out | refine qB ?_ GE195.out | refine qB ?_ GE204.out) | exact HB.out)⟩⟩
              · rw [if_neg c32] at H
                exact absurd H (by simp)
            · rw [if_neg c31] at H
              exact absurd H (by simp)
          · rw [if_neg c30] at H
            exact absurd H (by simp)
        · rw [if_neg c29] at H
          have c29b0 : decide (x4_1 < (l0_1.length : Int)) = false := decide_eq_false c29
          clear c29
          replace H := Option.bind_eq_some_iff.mp H
          obtain ⟨t208, A390, H⟩ := H
          replace H : (some (x205000_1, ([] : List (S70)), t202, t208)) = some (r1, r2, r3, r4) := H
          have A39 := Aside0.mk A390
          clear A390
          simp only [Option.some.injEq, Prod.mk.injEq] at H
          obtain ⟨rfl, rfl, rfl, rfl⟩ := H
          have hnb40 := NB194_195.out
          have hnc40 := NB195_194.out
          have hnb41 := NB194_204.out
          have hnc41 := NB204_194.out
          have hcz42_0 : wr.cell? ⟨gb194, 0, none⟩ = some (.slice A0_0 l0_0.length c0_0) := (qA BK194.out 0).trans rfl
          have hcz42_1 : wr.cell? ⟨gb194, 1, none⟩ = some (.slice A0_1 l0_1.length c0_1) := (qA BK194.out 1).trans rfl
          have hcz42_2 : wr.cell? ⟨gb194, 2, none⟩ = some (.int .i64 a0_2) := (qA BK194.out 2).trans rfl
          have hcz42_3 : wr.cell? ⟨gb194, 3, none⟩ = some (.int .i64 a0_3) := (qA BK194.out 3).trans rfl
          have hfz42_0 := qD BK194.out 0
          have hfz42_1 := qD BK194.out 1
          have hfz42_2 := qD BK194.out 2
          have hfz42_3 := qD BK194.out 3
          have hnb43 := NB204_195.out
          have hnc43 := NB195_204.out
          have hcz44_0 : wr.cell? ⟨gb204, 0, none⟩ = some (u205000) := (qA BK204.out 0).trans rfl
          have hcz44_1 : wr.cell? ⟨gb204, 1, none⟩ = some (.slice Ao27 t199.length co27) := (qA BK204.out 1).trans rfl
          have hcz44_2 : wr.cell? ⟨gb204, 2, none⟩ = some (.int .i64 t202) := (qA BK204.out 2).trans rfl
          have hcz44_3 : wr.cell? ⟨gb204, 3, none⟩ = some (.int .i64 t203) := (qA BK204.out 3).trans rfl
          have hfz44_0 := qD BK204.out 0
          have hfz44_1 := qD BK204.out 1
          have hfz44_2 := qD BK204.out 2
          have hfz44_3 := qD BK204.out 3
          go_wp2_with (first | ((with_reducible refine qT (f := 69) rfl ?_); refine zL (some 36) rfl rfl Try.func69 (by kernel_rfl) rfl #[.int .i64 a0_3] rfl (by (try simp only [List.map_toArray, List.map_cons, List.map_nil]); first | done | rfl | (simp only [List.length_drop, List.length_take]; rfl)) ?_; (with_reducible refine (spec_l7Less.calls a0_3 t208 _ A39.out).mono ?_); rintro e w' ⟨rfl, ⟨nd, rfl⟩⟩; refine ⟨_, rfl, ?_⟩; obtain ⟨Ao45, co45, eo45⟩ := Kd.zG HO_205000.out; subst eo45; have hcz46_0 : wr.cell? ⟨gb195, 0, none⟩ = some (.slice none 0 0) := (qA BK195.out 0).trans rfl; have hcz46_1 : wr.cell? ⟨gb195, 1, none⟩ = some (.slice none 0 0) := (qA BK195.out 1).trans rfl; have hcz46_2 : wr.cell? ⟨gb195, 2, none⟩ = some (.int .i64 0) := (qA BK195.out 2).trans rfl; have hcz46_3 : wr.cell? ⟨gb195, 3, none⟩ = some (.int .i64 0) := (qA BK195.out 3).trans rfl; have hfz46_0 := qD BK195.out 0; have hfz46_1 := qD BK195.out 1; have hfz46_2 := qD BK195.out 2; have hfz46_3 := qD BK195.out 3))
          refine bodyPost_ret (results_cell_row rfl _ _ gb195 26 #[.slice Ao45 x205000_1.length co45, .slice none 0 0, .int .i64 t202, .int .i64 t208] (0, 0) _ rfl (by (with_reducible repeat (first | refine qH ?_ _ | refine qI ?_ | refine qG ?_ _)); refine qP (cs := #[.slice Ao45 x205000_1.length co45, .slice none 0 0, .int .i64 t202, .int .i64 0]) ?_ 3 _ rfl; (with_reducible repeat (first | refine qH ?_ _ | refine qI ?_ | refine qG ?_ _)); refine qP (cs := #[.slice Ao45 x205000_1.length co45, .slice none 0 0, .int .i64 0, .int .i64 0]) ?_ 2 _ rfl; (with_reducible repeat (first | refine qH ?_ _ | refine qI ?_ | refine qG ?_ _)); refine qP (cs := #[.slice Ao45 x205000_1.length co45, .slice none 0 0, .int .i64 0, .int .i64 0]) ?_ 1 _ rfl; (with_reducible repeat (first | refine qH ?_ _ | refine qI ?_ | refine qG ?_ _)); refine qP (cs := #[.slice none 0 0, .slice none 0 0, .int .i64 0, .int .i64 0]) ?_ 0 _ rfl; (with_reducible repeat (first | refine qH ?_ _ | refine qI ?_ | refine qG ?_ _)); refine qR ?_ NB195_204.out _; (with_reducible repeat (first | refine qH ?_ _ | refine qI ?_ | refine qG ?_ _)); refine qR ?_ NB195_204.out _; (with_reducible repeat (first | refine qH ?_ _ | refine qI ?_ | refine qG ?_ _)); exact BK195.out) Try.underlying26 rfl (by kernel_rfl)) rfl ?_
          exact ⟨_, _, by first | rfl | (simp [errW_none, errW_some] <;> rfl) | (simp [*, errW_none, errW_some] <;> rfl), by (with_reducible repeat (first | apply Kd.qX | apply Kd.qV | apply Kd.qW)); exact Kd.qS (Kd.R_far (p := ⟨gb195, 3, none⟩) (Kd.R_far (p := ⟨gb195, 2, none⟩) (Kd.R_far (p := ⟨gb195, 1, none⟩) (Kd.R_far (p := ⟨gb195, 0, none⟩) (Kd.R_far (p := ⟨gb204, 3, none⟩) (Kd.R_far (p := ⟨gb204, 1, none⟩) (Kd.qY (Kd.qY HO_205000.out BK204.out (by decide)) BK195.out (by decide)) (fun _ hk => hk.1.2) (.slice none 0 0)) (fun _ hk => hk.1.2) (.int .i64 t208)) (fun _ hk => hk.2) (.slice Ao45 x205000_1.length co45)) (fun _ hk => hk.2) (.slice none 0 0)) (fun _ hk => hk.2) (.int .i64 t202)) (fun _ hk => hk.2) (.int .i64 t208)) (fun _ hk => trivial), by first | exact Kd.R_nil _ _ _ _ _ | exact Kd.N_nil _ _ _ _ _ | exact Kd.V_nil _ _ _ _ _ | exact Kd.Q_nil _ _ _ _ _ | exact Kd.S_nil _ _ _ _ _, by repeat (first | (with_reducible first | exact HB.out | apply qF | apply qC | apply qE | refine qB ?_ GE194.out | refine qB ?_ GE195.out | refine qB ?_ GE204.out) | exact HB.out)⟩

/-! ### spec_DiskNew: function 80 -/
def spec_DiskNew.f  : Option (List ByteArray × (List (S70)) × Int × Int) := if 42 ≤ 17592186044416 then (some ((List.replicate 42 (⟨#[]⟩ : ByteArray)), ([] : List (S70)), (-1), (-1))) else (none)
set_option maxHeartbeats 8000000 in
set_option maxRecDepth 100000 in
theorem spec_DiskNew.calls  (r1 : List ByteArray) (r2 : List (S70)) (r3 : Int) (r4 : Int) (w : World) (h : spec_DiskNew.f  = some (r1, r2, r3, r4)) :
    Calls Try.prog 80 #[] w fun e w' => ∃ v0_ v1_ : Value, e = .returned (.agg #[v0_, v1_, .int .i64 r3, .int .i64 r4]) ∧ Kd.R Kd.string 9 w' w.heap.size (fun _ => True) v0_ r1 ∧ Kd.R k70 70 w' w.heap.size (fun _ => True) v1_ r2 ∧ Below w.heap.size w w' := by
  have hu26 := Try.underlying26
  have HB := Aside0.mk (Below.refl w.heap.size w)
  have H : (if 42 ≤ 17592186044416 then (some ((List.replicate 42 (⟨#[]⟩ : ByteArray)), ([] : List (S70)), (-1), (-1))) else (none)) = some (r1, r2, r3, r4) := h
  clear h
  by_cases c1 : 42 ≤ 17592186044416
  · rw [if_pos c1] at H
    have c1b0 := eq_true c1
    have c1b1 : decide (42 ≤ 17592186044416) = true := decide_eq_true c1
    clear c1
    obtain ⟨y210, hy210⟩ : ∃ y_ : List ByteArray, y_ = (List.replicate 42 (⟨#[]⟩ : ByteArray)) := ⟨_, rfl⟩
    replace H : (some (y210, ([] : List (S70)), (-1), (-1))) = some (r1, r2, r3, r4) := by first | (rw [hy210]; with_reducible exact H) | (have H2_ := (Option.bind_some _ _).symm.trans H; rw [hy210]; with_reducible exact H2_) | (have H2_ := (Option.bind_some _ _).symm.trans H; with_reducible exact H2_) | with_reducible exact H | (rw [hy210]; exact H) | exact H
    have Ny210 := Aside0.mk hy210
    clear hy210
    simp only [Option.some.injEq, Prod.mk.injEq] at H
    obtain ⟨rfl, rfl, rfl, rfl⟩ := H
    go_enter Try.func80, Try.ntmps80
    go_wp2_with (first | ((with_reducible refine zB (N := 0) rfl ?_); refine qZ ?hg (N := 0) ?hd (cs := #[.slice none 0 0, .slice none 0 0, .int .i64 0, .int .i64 0]) (t := 26) ?hr ?_; (case hd => rfl); (case hg => rfl); (case hr => first | (go_simp; done) | (go_simp; rfl)); intro gb209 hg w2 hbox hb; have n0_ := Aside0.mk (qN (by repeat (first | (with_reducible first | exact HB.out | apply qF | apply qC | apply qE) | exact HB.out)) hb); have n1_ := Aside0.mk (hbox); have n2_ := Aside0.mk ((by rw [hg]; exact (qM (by repeat (first | (with_reducible first | exact HB.out | apply qF | apply qC | apply qE) | exact HB.out))) : w.heap.size ≤ gb209)); have n3_ := Aside0.mk ((by rw [hg]; exact (qM (by repeat (first | (with_reducible first | exact HB.out | apply qF | apply qC | apply qE) | exact HB.out))) : w.heap.size ≤ gb209)); clear HB; have HB := n0_; have BK209 := n1_; have GW209 := n2_; have GE209 := n3_; clear n0_ n1_ n2_ n3_; clear hb hbox hg) | ((with_reducible refine zB (N := 1) rfl ?_); refine Kd.R_make Kd.string _ 9 rfl (N := 1) rfl 23 _ _ rfl 42 rfl rfl Try.underlying23 (.string ⟨#[]⟩) 16 info9 rfl (by decide) (by omega) (⟨#[]⟩ : ByteArray) (ok := fun _ => True) (okp := fun _ => True) rfl (fun _ hk => hk) trivial (by omega) (by omega) (Below.refl _ _) (Nat.le_refl _) ?_; intro v211 w3 ho4 hb hg_ hnew_; clear hg_ hnew_; (first | rw [← Ny210.out] at ho4 | (simp only [Int.reduceToNat] at ho4; rw [← Ny210.out] at ho4)); have n0_ := Aside0.mk (Kd.zJ ho4 (qM (by repeat (first | (with_reducible first | exact HB.out | apply qF | apply qC | apply qE | refine qB ?_ GE209.out) | exact HB.out)))); have n1_ := Aside0.mk (qJ (g := gb209) (o := .cells #[.slice none 0 0, .slice none 0 0, .int .i64 0, .int .i64 0] 26 (0, 0)) (bw_ BK209.out) hb); have n2_ := Aside0.mk (qN (by repeat (first | (with_reducible first | exact HB.out | apply qF | apply qC | apply qE | refine qB ?_ GE209.out) | exact HB.out)) hb); clear BK209; clear HB; have HO212 := n0_; have BK209 := n1_; have HB := n2_; clear n0_ n1_ n2_; clear hb ho4; obtain ⟨Ao5, co5, eo5⟩ := Kd.zG HO212.out; subst eo5; have hcz6_0 : w3.cell? ⟨gb209, 0, none⟩ = some (.slice none 0 0) := (qA BK209.out 0).trans rfl; have hcz6_1 : w3.cell? ⟨gb209, 1, none⟩ = some (.slice none 0 0) := (qA BK209.out 1).trans rfl; have hcz6_2 : w3.cell? ⟨gb209, 2, none⟩ = some (.int .i64 0) := (qA BK209.out 2).trans rfl; have hcz6_3 : w3.cell? ⟨gb209, 3, none⟩ = some (.int .i64 0) := (qA BK209.out 3).trans rfl; have hfz6_0 := qD BK209.out 0; have hfz6_1 := qD BK209.out 1; have hfz6_2 := qD BK209.out 2; have hfz6_3 := qD BK209.out 3))
    refine bodyPost_ret (results_cell_row rfl _ _ gb209 26 #[.slice Ao5 y210.length co5, .slice none 0 0, .int .i64 (-1), .int .i64 (-1)] (0, 0) _ rfl (by (with_reducible repeat (first | refine qH ?_ _ | refine qI ?_ | refine qG ?_ _)); refine qP (cs := #[.slice Ao5 y210.length co5, .slice none 0 0, .int .i64 (-1), .int .i64 0]) ?_ 3 _ rfl; (with_reducible repeat (first | refine qH ?_ _ | refine qI ?_ | refine qG ?_ _)); refine qP (cs := #[.slice Ao5 y210.length co5, .slice none 0 0, .int .i64 0, .int .i64 0]) ?_ 2 _ rfl; (with_reducible repeat (first | refine qH ?_ _ | refine qI ?_ | refine qG ?_ _)); refine qP (cs := #[.slice Ao5 y210.length co5, .slice none 0 0, .int .i64 0, .int .i64 0]) ?_ 1 _ rfl; (with_reducible repeat (first | refine qH ?_ _ | refine qI ?_ | refine qG ?_ _)); refine qP (cs := #[.slice none 0 0, .slice none 0 0, .int .i64 0, .int .i64 0]) ?_ 0 _ rfl; (with_reducible repeat (first | refine qH ?_ _ | refine qI ?_ | refine qG ?_ _)); exact BK209.out) Try.underlying26 rfl (by kernel_rfl)) rfl ?_
    exact ⟨_, _, by first | rfl | (simp [errW_none, errW_some] <;> rfl) | (simp [*, errW_none, errW_some] <;> rfl), by (with_reducible repeat (first | apply Kd.qX | apply Kd.qV | apply Kd.qW)); exact Kd.qS (Kd.R_far (p := ⟨gb209, 3, none⟩) (Kd.R_far (p := ⟨gb209, 2, none⟩) (Kd.R_far (p := ⟨gb209, 1, none⟩) (Kd.R_far (p := ⟨gb209, 0, none⟩) (Kd.qY HO212.out BK209.out (by decide)) (fun _ hk => hk.2) (.slice Ao5 y210.length co5)) (fun _ hk => hk.2) (.slice none 0 0)) (fun _ hk => hk.2) (.int .i64 (-1))) (fun _ hk => hk.2) (.int .i64 (-1))) (fun _ hk => trivial), by first | exact Kd.R_nil _ _ _ _ _ | exact Kd.N_nil _ _ _ _ _ | exact Kd.V_nil _ _ _ _ _ | exact Kd.Q_nil _ _ _ _ _ | exact Kd.S_nil _ _ _ _ _, by repeat (first | (with_reducible first | exact HB.out | apply qF | apply qC | apply qE | refine qB ?_ GE209.out) | exact HB.out)⟩
  · rw [if_neg c1] at H
    exact absurd H (by simp)

end Go.Proofs.Ytepihebkdnmppaa.Ak
