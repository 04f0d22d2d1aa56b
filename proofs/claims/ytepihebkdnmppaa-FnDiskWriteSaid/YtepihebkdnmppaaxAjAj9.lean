/- Walks of the seat's functions, written by a program of this session (xprint.py) with the kit's printer: each call comes to just what its Lean function says. -/
import Derived.Test.YtepihebkdnmppaaxAjAj0
import Derived.Test.YtepihebkdnmppaaxAjAj2
import Derived.Test.YtepihebkdnmppaaxAjAj4
import Derived.Test.YtepihebkdnmppaaxAjAj5
namespace Go.Proofs.Ytepihebkdnmppaa.Aj
open Go.RowKit Go.Proofs.YtepihebkdnmppaaV.PrintWords Go.Proofs.YtepihebkdnmppaaV.PrintLast Go.Proofs.YtepihebkdnmppaaV.PrintMore
attribute [local go_sem] xH min2_int max_two min_two xA xB max_four min_four   -- for this text's walks alone
attribute [local go_sem high] World.zO
set_option linter.unusedVariables false
set_option linter.unusedSimpArgs false

/-! ### spec_l7Ok: function 37 -/
mutual
def spec_l7Ok.j0 : Nat → Bool → List ByteArray → List (S70) → Int → Int → Option (Bool)
  | 0, _, _, _, _, _ => none
  | k + 1, x24, x337000, x337001, x337002, x337003 => if x24 = true then (some false) else (spec_l7Ok.l0 k 0 x337000 x337001 x337002 x337003)
def spec_l7Ok.l0 : Nat → Int → List ByteArray → List (S70) → Int → Int → Option (Bool)
  | 0, _, _, _, _, _ => none
  | k + 1, x3, x337000, x337001, x337002, x337003 => if x3 < (x337000.length : Int) then (if 0 ≤ x3 then (if ((rdOf ByteArray.empty x337000 x3).size : Int) > 1200 then (some false) else (spec_l7Ok.l0 k (wrap64 (x3 + 1)) x337000 x337001 x337002 x337003)) else (none)) else (spec_l7Ok.l1 k 0 x337000 x337001 x337002 x337003)
def spec_l7Ok.l1 : Nat → Int → List ByteArray → List (S70) → Int → Int → Option (Bool)
  | 0, _, _, _, _, _ => none
  | k + 1, x4, x337000, x337001, x337002, x337003 => if x4 < (x337001.length : Int) then (if 0 ≤ x4 then ((spec_l7Wait.f ((rd_T70 x337001 x4).f0) ((rd_T70 x337001 x4).f1)).bind fun t339 => (if t339 = true then (spec_l7Ok.l1 k (wrap64 (x4 + 1)) x337000 x337001 x337002 x337003) else (some false))) else (none)) else (some true)
end
def spec_l7Ok.f (k : Nat) (l0_0 : List ByteArray) (l0_1 : List (S70)) (a0_2 : Int) (a0_3 : Int) : Option (Bool) := if (l0_0.length : Int) = 42 then (if (l0_1.length : Int) > 100 then (spec_l7Ok.j0 k true l0_0 l0_1 a0_2 a0_3) else (if a0_2 < (-1) then (spec_l7Ok.j0 k true l0_0 l0_1 a0_2 a0_3) else (spec_l7Ok.j0 k (decide (a0_3 < (-1))) l0_0 l0_1 a0_2 a0_3))) else (spec_l7Ok.j0 k true l0_0 l0_1 a0_2 a0_3)
theorem spec_l7Ok.mono_l : ∀ k, (∀ y0 y1 y2 y3 y4, LeO (spec_l7Ok.j0 k y0 y1 y2 y3 y4) (spec_l7Ok.j0 (k + 1) y0 y1 y2 y3 y4)) ∧ (∀ y0 y1 y2 y3 y4, LeO (spec_l7Ok.l0 k y0 y1 y2 y3 y4) (spec_l7Ok.l0 (k + 1) y0 y1 y2 y3 y4)) ∧ (∀ y0 y1 y2 y3 y4, LeO (spec_l7Ok.l1 k y0 y1 y2 y3 y4) (spec_l7Ok.l1 (k + 1) y0 y1 y2 y3 y4))
  | 0 => ⟨fun _ _ _ _ _ r h => by simp [spec_l7Ok.j0] at h, fun _ _ _ _ _ r h => by simp [spec_l7Ok.l0] at h, fun _ _ _ _ _ r h => by simp [spec_l7Ok.l1] at h⟩
  | k + 1 => by
    obtain ⟨ih0, ih1, ih2⟩ := spec_l7Ok.mono_l k
    refine ⟨?_, ?_, ?_⟩
    · intro y0 y1 y2 y3 y4
      unfold spec_l7Ok.j0
      repeat' first
      | (with_reducible exact ih0 _ _ _ _ _)
      | (with_reducible exact ih1 _ _ _ _ _)
      | (with_reducible exact ih2 _ _ _ _ _)
      | (with_reducible exact LeO.refl _)
      | (with_reducible exact LeO.none _)
      | (with_reducible refine LeO.ite ?_ ?_)
      | (with_reducible refine LeO.bind ?_ (fun _ => ?_))
      | exact ih0 _ _ _ _ _
      | exact ih1 _ _ _ _ _
      | exact ih2 _ _ _ _ _
      | exact LeO.none _
      | refine LeO.ite ?_ ?_
      | refine LeO.bind ?_ (fun _ => ?_)
    · intro y0 y1 y2 y3 y4
      unfold spec_l7Ok.l0
      repeat' first
      | (with_reducible exact ih0 _ _ _ _ _)
      | (with_reducible exact ih1 _ _ _ _ _)
      | (with_reducible exact ih2 _ _ _ _ _)
      | (with_reducible exact LeO.refl _)
      | (with_reducible exact LeO.none _)
      | (with_reducible refine LeO.ite ?_ ?_)
      | (with_reducible refine LeO.bind ?_ (fun _ => ?_))
      | exact ih0 _ _ _ _ _
      | exact ih1 _ _ _ _ _
      | exact ih2 _ _ _ _ _
      | exact LeO.none _
      | refine LeO.ite ?_ ?_
      | refine LeO.bind ?_ (fun _ => ?_)
    · intro y0 y1 y2 y3 y4
      unfold spec_l7Ok.l1
      repeat' first
      | (with_reducible exact ih0 _ _ _ _ _)
      | (with_reducible exact ih1 _ _ _ _ _)
      | (with_reducible exact ih2 _ _ _ _ _)
      | (with_reducible exact LeO.refl _)
      | (with_reducible exact LeO.none _)
      | (with_reducible refine LeO.ite ?_ ?_)
      | (with_reducible refine LeO.bind ?_ (fun _ => ?_))
      | exact ih0 _ _ _ _ _
      | exact ih1 _ _ _ _ _
      | exact ih2 _ _ _ _ _
      | exact LeO.none _
      | refine LeO.ite ?_ ?_
      | refine LeO.bind ?_ (fun _ => ?_)
theorem spec_l7Ok.mono : ∀ a0 a1 a2 a3 k, LeO (spec_l7Ok.f k a0 a1 a2 a3) (spec_l7Ok.f (k + 1) a0 a1 a2 a3) := by
  intro a0 a1 a2 a3 k
  obtain ⟨ih0, ih1, ih2⟩ := spec_l7Ok.mono_l k
  unfold spec_l7Ok.f
  repeat' first
      | (with_reducible exact ih0 _ _ _ _ _)
      | (with_reducible exact ih1 _ _ _ _ _)
      | (with_reducible exact ih2 _ _ _ _ _)
      | (with_reducible exact LeO.refl _)
      | (with_reducible exact LeO.none _)
      | (with_reducible refine LeO.ite ?_ ?_)
      | (with_reducible refine LeO.bind ?_ (fun _ => ?_))
      | exact ih0 _ _ _ _ _
      | exact ih1 _ _ _ _ _
      | exact ih2 _ _ _ _ _
      | exact LeO.none _
      | refine LeO.ite ?_ ?_
      | refine LeO.bind ?_ (fun _ => ?_)
set_option maxHeartbeats 8000000 in
set_option maxRecDepth 100000 in
theorem spec_l7Ok.calls (k : Nat) (A0_0 : Option Addr) (c0_0 : Nat) (l0_0 : List ByteArray) (A0_1 : Option Addr) (c0_1 : Nat) (l0_1 : List (S70)) (a0_2 : Int) (a0_3 : Int) (r : Bool) (w : World) (hr0_0 : Kd.C Kd.string w A0_0 l0_0.length l0_0) (hc0_0 : l0_0.length ≤ c0_0) (hr0_1 : Kd.C k70 w A0_1 l0_1.length l0_1) (hc0_1 : l0_1.length ≤ c0_1) (h : spec_l7Ok.f k l0_0 l0_1 a0_2 a0_3 = some r) :
    Calls Try.prog 37 #[.agg #[.slice A0_0 l0_0.length c0_0, .slice A0_1 l0_1.length c0_1, .int .i64 a0_2, .int .i64 a0_3]] w fun e w' => e = .returned (.bool r) ∧ Below w.heap.size w w' := by
  have hu26 := Try.underlying26
  have hu70 := Try.underlying70
  have HR0_0 := Aside0.mk hr0_0
  have HC0_0 := Aside0.mk hc0_0
  clear hr0_0 hc0_0
  have HR0_1 := Aside0.mk hr0_1
  have HC0_1 := Aside0.mk hc0_1
  clear hr0_1 hc0_1
  have HB := Aside0.mk (Below.refl w.heap.size w)
  have H : (if (l0_0.length : Int) = 42 then (if (l0_1.length : Int) > 100 then (spec_l7Ok.j0 k true l0_0 l0_1 a0_2 a0_3) else (if a0_2 < (-1) then (spec_l7Ok.j0 k true l0_0 l0_1 a0_2 a0_3) else (spec_l7Ok.j0 k (decide (a0_3 < (-1))) l0_0 l0_1 a0_2 a0_3))) else (spec_l7Ok.j0 k true l0_0 l0_1 a0_2 a0_3)) = some r := h
  clear h
  have HC2 := Aside0.mk H
  clear H
  go_enter Try.func37, Try.ntmps37
  go_upto_region 1 with (first | ((with_reducible refine qZ (N := 1) rfl ?_); refine qY ?hg (N := 1) ?hd (cs := #[.slice A0_0 l0_0.length c0_0, .slice A0_1 l0_1.length c0_1, .int .i64 a0_2, .int .i64 a0_3]) (t := 26) ?hr ?_; (case hd => rfl); (case hg => rfl); (case hr => first | (go_simp; done) | (go_simp; rfl)); intro gb336 hg w3 hbox hb; have n0_ := Aside0.mk (qQ (by repeat (first | (with_reducible first | exact HB.out | apply qG | apply qD | apply qF) | exact HB.out)) hb); have n1_ := Aside0.mk (hbox); have n2_ := Aside0.mk ((by rw [hg]; exact (qP (by repeat (first | (with_reducible first | exact HB.out | apply qG | apply qD | apply qF) | exact HB.out))) : w.heap.size ≤ gb336)); have n3_ := Aside0.mk ((by rw [hg]; exact (qP (by repeat (first | (with_reducible first | exact HB.out | apply qG | apply qD | apply qF) | exact HB.out))) : w.heap.size ≤ gb336)); clear HB; have HB := n0_; have BK336 := n1_; have GW336 := n2_; have GE336 := n3_; clear n0_ n1_ n2_ n3_; clear hb hbox hg))
  (try simp only [Act.put, List.setIfInBounds_toArray, List.set_cons_zero, List.set_cons_succ])
  go_cut [24] (fun v24 wc => ∃ (kq : Nat) (x24_1 : Bool), v24 = .bool x24_1 ∧ Aside0 (spec_l7Ok.j0 kq x24_1 l0_0 l0_1 a0_2 a0_3 = some r) ∧ Aside0 (kq ≤ k) ∧ Aside0 (wc.heap[gb336]? = some (.cells #[(.slice A0_0 l0_0.length c0_0), (.slice A0_1 l0_1.length c0_1), .int .i64 a0_2, .int .i64 a0_3] 26 (0, 0))) ∧ Aside0 (Below w.heap.size w wc))
  case first =>
    have H := HC2.out
    clear HC2
    by_cases c4 : (l0_0.length : Int) = 42
    · rw [if_pos c4] at H
      have c4b0 : ((l0_0.length : Int) == 42) = true := beq_iff_eq.mpr c4
      have c4b1 : ((l0_0.length : Int) != 42) = false := bne_eq_false_iff_eq.mpr c4
      clear c4
      (first | rw [c4b0] | (simp only [i64_w, i32_w]; rw [c4b0]) | skip)
      by_cases c5 : (l0_1.length : Int) > 100
      · rw [if_pos c5] at H
        have c5b0 : decide (100 < (l0_1.length : Int)) = true := decide_eq_true c5
        have c5b1 : decide (100 < l0_1.length) = true := decide_eq_true (by omega)
        clear c5
        have H' := Aside0.mk H
        clear H
        have hcz6_0 : w3.cell? ⟨gb336, 0, none⟩ = some (.slice A0_0 l0_0.length c0_0) := (qA BK336.out 0).trans rfl
        have hcz6_1 : w3.cell? ⟨gb336, 1, none⟩ = some (.slice A0_1 l0_1.length c0_1) := (qA BK336.out 1).trans rfl
        have hcz6_2 : w3.cell? ⟨gb336, 2, none⟩ = some (.int .i64 a0_2) := (qA BK336.out 2).trans rfl
        have hcz6_3 : w3.cell? ⟨gb336, 3, none⟩ = some (.int .i64 a0_3) := (qA BK336.out 3).trans rfl
        have hfz6_0 := qB BK336.out 0
        have hfz6_1 := qB BK336.out 1
        have hfz6_2 := qB BK336.out 2
        have hfz6_3 := qB BK336.out 3
        go_wp2
        go_meet
        case rel => exact ⟨_, (true), (by first | rfl | (simp; done) | (simp [*]; done)), H', ⟨by first | omega | exact Nat.le_refl _⟩, ⟨by (with_reducible repeat (first | refine qH ?_ _ | refine qI ?_ | refine qE ?_ _)); exact BK336.out⟩, ⟨by repeat (first | (with_reducible first | exact HB.out | apply qG | apply qD | apply qF | refine qC ?_ GE336.out) | exact HB.out)⟩⟩
      · rw [if_neg c5] at H
        have c5b0 : decide (100 < (l0_1.length : Int)) = false := decide_eq_false c5
        have c5b1 : decide (100 < l0_1.length) = false := decide_eq_false (by omega)
        clear c5
        by_cases c7 : a0_2 < (-1)
        · rw [if_pos c7] at H
          have c7b0 : decide (a0_2 < (-1)) = true := decide_eq_true c7
          clear c7
          have H' := Aside0.mk H
          clear H
          have hcz8_0 : w3.cell? ⟨gb336, 0, none⟩ = some (.slice A0_0 l0_0.length c0_0) := (qA BK336.out 0).trans rfl
          have hcz8_1 : w3.cell? ⟨gb336, 1, none⟩ = some (.slice A0_1 l0_1.length c0_1) := (qA BK336.out 1).trans rfl
          have hcz8_2 : w3.cell? ⟨gb336, 2, none⟩ = some (.int .i64 a0_2) := (qA BK336.out 2).trans rfl
          have hcz8_3 : w3.cell? ⟨gb336, 3, none⟩ = some (.int .i64 a0_3) := (qA BK336.out 3).trans rfl
          have hfz8_0 := qB BK336.out 0
          have hfz8_1 := qB BK336.out 1
          have hfz8_2 := qB BK336.out 2
          have hfz8_3 := qB BK336.out 3
          go_wp2
          go_meet
          case rel => exact ⟨_, (true), (by first | rfl | (simp; done) | (simp [*]; done)), H', ⟨by first | omega | exact Nat.le_refl _⟩, ⟨by (with_reducible repeat (first | refine qH ?_ _ | refine qI ?_ | refine qE ?_ _)); exact BK336.out⟩, ⟨by repeat (first | (with_reducible first | exact HB.out | apply qG | apply qD | apply qF | refine qC ?_ GE336.out) | exact HB.out)⟩⟩
        · rw [if_neg c7] at H
          have c7b0 : decide (a0_2 < (-1)) = false := decide_eq_false c7
          clear c7
          have H' := Aside0.mk H
          clear H
          have hcz9_0 : w3.cell? ⟨gb336, 0, none⟩ = some (.slice A0_0 l0_0.length c0_0) := (qA BK336.out 0).trans rfl
          have hcz9_1 : w3.cell? ⟨gb336, 1, none⟩ = some (.slice A0_1 l0_1.length c0_1) := (qA BK336.out 1).trans rfl
          have hcz9_2 : w3.cell? ⟨gb336, 2, none⟩ = some (.int .i64 a0_2) := (qA BK336.out 2).trans rfl
          have hcz9_3 : w3.cell? ⟨gb336, 3, none⟩ = some (.int .i64 a0_3) := (qA BK336.out 3).trans rfl
          have hfz9_0 := qB BK336.out 0
          have hfz9_1 := qB BK336.out 1
          have hfz9_2 := qB BK336.out 2
          have hfz9_3 := qB BK336.out 3
          go_wp2
          go_meet
          case rel => exact ⟨_, (decide (a0_3 < (-1))), (by first | rfl | (simp; done) | (simp [*]; done)), H', ⟨by first | omega | exact Nat.le_refl _⟩, ⟨by (with_reducible repeat (first | refine qH ?_ _ | refine qI ?_ | refine qE ?_ _)); exact BK336.out⟩, ⟨by repeat (first | (with_reducible first | exact HB.out | apply qG | apply qD | apply qF | refine qC ?_ GE336.out) | exact HB.out)⟩⟩
    · rw [if_neg c4] at H
      have c4b0 : ((l0_0.length : Int) == 42) = false := beq_eq_false_iff_ne.mpr c4
      have c4b1 : ((l0_0.length : Int) != 42) = true := bne_iff_ne.mpr c4
      (first | rw [c4b0] | (simp only [i64_w, i32_w]; rw [c4b0]) | skip)
      have H' := Aside0.mk H
      clear H
      have hcz10_0 : w3.cell? ⟨gb336, 0, none⟩ = some (.slice A0_0 l0_0.length c0_0) := (qA BK336.out 0).trans rfl
      have hcz10_1 : w3.cell? ⟨gb336, 1, none⟩ = some (.slice A0_1 l0_1.length c0_1) := (qA BK336.out 1).trans rfl
      have hcz10_2 : w3.cell? ⟨gb336, 2, none⟩ = some (.int .i64 a0_2) := (qA BK336.out 2).trans rfl
      have hcz10_3 : w3.cell? ⟨gb336, 3, none⟩ = some (.int .i64 a0_3) := (qA BK336.out 3).trans rfl
      have hfz10_0 := qB BK336.out 0
      have hfz10_1 := qB BK336.out 1
      have hfz10_2 := qB BK336.out 2
      have hfz10_3 := qB BK336.out 3
      go_wp2
      go_meet
      case rel => exact ⟨_, (true), (by first | rfl | (simp; done) | (simp [*]; done)), H', ⟨by first | omega | exact Nat.le_refl _⟩, ⟨by (with_reducible repeat (first | refine qH ?_ _ | refine qI ?_ | refine qE ?_ _)); exact BK336.out⟩, ⟨by repeat (first | (with_reducible first | exact HB.out | apply qG | apply qD | apply qF | refine qC ?_ GE336.out) | exact HB.out)⟩⟩
  case rest =>
    clear HC2
    try clear p2
    try clear c3
    try clear c4
    try clear c4b0
    try clear c4b1
    try clear c5
    try clear c5b0
    try clear c5b1
    try clear c7
    try clear c7b0
    try clear hcz10_0
    try clear hcz10_1
    try clear hcz10_2
    try clear hcz10_3
    try clear hcz6_0
    try clear hcz6_1
    try clear hcz6_2
    try clear hcz6_3
    try clear hcz8_0
    try clear hcz8_1
    try clear hcz8_2
    try clear hcz8_3
    try clear hcz9_0
    try clear hcz9_1
    try clear hcz9_2
    try clear hcz9_3
    try clear hfz10_0
    try clear hfz10_1
    try clear hfz10_2
    try clear hfz10_3
    try clear hfz6_0
    try clear hfz6_1
    try clear hfz6_2
    try clear hfz6_3
    try clear hfz8_0
    try clear hfz8_1
    try clear hfz8_2
    try clear hfz8_3
    try clear hfz9_0
    try clear hfz9_1
    try clear hfz9_2
    try clear hfz9_3
    obtain ⟨kq, x24_1, rfl, HA, HJ1, BK336, HB⟩ := hcut
    cases kq with
    | zero => exact absurd HA.out (by simp [spec_l7Ok.j0])
    | succ kj1 =>
      have H := HA.out
      clear HA
      simp only [spec_l7Ok.j0] at H
      by_cases c11 : x24_1 = true
      · subst c11
        have H1 : (some false) = some r := by first | rfl | (rw [if_pos rfl] at H; exact H)
        clear H
        have H := H1
        clear H1
        obtain rfl := Option.some.inj H
        go_wp2
        go_ret
        exact ⟨by first | rfl | (simp [errW_none, errW_some] <;> rfl) | (simp [*, errW_none, errW_some] <;> rfl), by repeat (first | (with_reducible first | exact HB.out | apply qG | apply qD | apply qF | refine qC ?_ GE336.out) | exact HB.out)⟩
      · replace c11 := Bool.eq_false_iff.mpr c11
        subst c11
        have H1 : (spec_l7Ok.l0 kj1 0 l0_0 l0_1 a0_2 a0_3) = some r := by first | rfl | (rw [if_neg (show ¬ (false = true) by decide)] at H; exact H)
        clear H
        have H := H1
        clear H1
        have H' := Aside0.mk H
        clear H
        go_wp2
        go_loopg [3] kj1 (fun kq v3 w' => ∃ (x3_2 : Int), v3 = .int .i64 x3_2 ∧ Aside0 (spec_l7Ok.l0 kq x3_2 l0_0 l0_1 a0_2 a0_3 = some r) ∧ Aside0 (kq ≤ kj1) ∧ Aside0 (w'.heap[gb336]? = some (.cells #[(.slice A0_0 l0_0.length c0_0), (.slice A0_1 l0_1.length c0_1), .int .i64 a0_2, .int .i64 a0_3] 26 (0, 0))) ∧ Aside0 (Below w.heap.size w w'))
        case atStart => exact ⟨(0), (by first | rfl | (simp; done) | (simp [*]; done)), H', ⟨Nat.le_refl _⟩, ⟨by (with_reducible repeat (first | refine qH ?_ _ | refine qI ?_ | refine qE ?_ _)); exact BK336.out⟩, ⟨by repeat (first | (with_reducible first | exact HB.out | apply qG | apply qD | apply qF | refine qC ?_ GE336.out) | exact HB.out)⟩⟩
        case round =>
          clear H'
          try clear c1
          try clear p2
          try clear c3
          try clear c4
          try clear c4b0
          try clear c4b1
          try clear c5
          try clear c5b0
          try clear c5b1
          try clear c7
          try clear c7b0
          try clear c11
          try clear hcz10_0
          try clear hcz10_1
          try clear hcz10_2
          try clear hcz10_3
          try clear hcz6_0
          try clear hcz6_1
          try clear hcz6_2
          try clear hcz6_3
          try clear hcz8_0
          try clear hcz8_1
          try clear hcz8_2
          try clear hcz8_3
          try clear hcz9_0
          try clear hcz9_1
          try clear hcz9_2
          try clear hcz9_3
          try clear hfz10_0
          try clear hfz10_1
          try clear hfz10_2
          try clear hfz10_3
          try clear hfz6_0
          try clear hfz6_1
          try clear hfz6_2
          try clear hfz6_3
          try clear hfz8_0
          try clear hfz8_1
          try clear hfz8_2
          try clear hfz8_3
          try clear hfz9_0
          try clear hfz9_1
          try clear hfz9_2
          try clear hfz9_3
          try clear p2
          obtain ⟨x3_2, rfl, HA, HK2, BK336, HB⟩ := hrel
          cases gk with
          | zero => exact absurd HA.out (by simp [spec_l7Ok.l0])
          | succ k2 =>
            have H := HA.out
            clear HA
            simp only [spec_l7Ok.l0] at H
            by_cases c12 : x3_2 < (l0_0.length : Int)
            · rw [if_pos c12] at H
              have c12b0 : decide (x3_2 < (l0_0.length : Int)) = true := decide_eq_true c12
              clear c12
              by_cases c13 : 0 ≤ x3_2
              · rw [if_pos c13] at H
                have c13b0 : decide (0 ≤ x3_2) = true := decide_eq_true c13
                clear c13
                by_cases c14 : ((rdOf ByteArray.empty l0_0 x3_2).size : Int) > 1200
                · rw [if_pos c14] at H
                  have c14b0 : decide (1200 < ((rdOf ByteArray.empty l0_0 x3_2).size : Int)) = true := decide_eq_true c14
                  have c14b1 : decide (1200 < (rdOf ByteArray.empty l0_0 x3_2).size) = true := decide_eq_true (by omega)
                  clear c14
                  obtain rfl := Option.some.inj H
                  have hcz15_0 : wr.cell? ⟨gb336, 0, none⟩ = some (.slice A0_0 l0_0.length c0_0) := (qA BK336.out 0).trans rfl
                  have hcz15_1 : wr.cell? ⟨gb336, 1, none⟩ = some (.slice A0_1 l0_1.length c0_1) := (qA BK336.out 1).trans rfl
                  have hcz15_2 : wr.cell? ⟨gb336, 2, none⟩ = some (.int .i64 a0_2) := (qA BK336.out 2).trans rfl
                  have hcz15_3 : wr.cell? ⟨gb336, 3, none⟩ = some (.int .i64 a0_3) := (qA BK336.out 3).trans rfl
                  have hfz15_0 := qB BK336.out 0
                  have hfz15_1 := qB BK336.out 1
                  have hfz15_2 := qB BK336.out 2
                  have hfz15_3 := qB BK336.out 3
                  have p337 : 0 ≤ (x3_2 : Int) := of_decide_eq_true (by first | (with_reducible assumption) | assumption)
                  have q337 : x3_2 < (l0_0.length : Int) := of_decide_eq_true (by first | (with_reducible assumption) | assumption)
                  obtain ⟨ad337, e337, hx337_0⟩ := Kd.at_string HR0_0.out x3_2 p337 q337
                  cases e337
                  replace hx337_0 := (HB.out.cell (World.block_lt_of_cell? w _ hx337_0)).trans hx337_0
                  replace p337 := eq_true p337
                  replace q337 := eq_true q337
                  go_wp2
                  go_ret
                  exact ⟨by first | rfl | (simp [errW_none, errW_some] <;> rfl) | (simp [*, errW_none, errW_some] <;> rfl), by repeat (first | (with_reducible first | exact HB.out | apply qG | apply qD | apply qF | refine qC ?_ GE336.out) | exact HB.out)⟩
                · rw [if_neg c14] at H
                  have c14b0 : decide (1200 < ((rdOf ByteArray.empty l0_0 x3_2).size : Int)) = false := decide_eq_false c14
                  have c14b1 : decide (1200 < (rdOf ByteArray.empty l0_0 x3_2).size) = false := decide_eq_false (by omega)
                  clear c14
                  have H' := Aside0.mk H
                  clear H
                  have hcz16_0 : wr.cell? ⟨gb336, 0, none⟩ = some (.slice A0_0 l0_0.length c0_0) := (qA BK336.out 0).trans rfl
                  have hcz16_1 : wr.cell? ⟨gb336, 1, none⟩ = some (.slice A0_1 l0_1.length c0_1) := (qA BK336.out 1).trans rfl
                  have hcz16_2 : wr.cell? ⟨gb336, 2, none⟩ = some (.int .i64 a0_2) := (qA BK336.out 2).trans rfl
                  have hcz16_3 : wr.cell? ⟨gb336, 3, none⟩ = some (.int .i64 a0_3) := (qA BK336.out 3).trans rfl
                  have hfz16_0 := qB BK336.out 0
                  have hfz16_1 := qB BK336.out 1
                  have hfz16_2 := qB BK336.out 2
                  have hfz16_3 := qB BK336.out 3
                  have p337 : 0 ≤ (x3_2 : Int) := of_decide_eq_true (by first | (with_reducible assumption) | assumption)
                  have q337 : x3_2 < (l0_0.length : Int) := of_decide_eq_true (by first | (with_reducible assumption) | assumption)
                  obtain ⟨ad337, e337, hx337_0⟩ := Kd.at_string HR0_0.out x3_2 p337 q337
                  cases e337
                  replace hx337_0 := (HB.out.cell (World.block_lt_of_cell? w _ hx337_0)).trans hx337_0
                  replace p337 := eq_true p337
                  replace q337 := eq_true q337
                  go_wp2
                  go_roundg k2
                  case measure => have := HJ1.out; have := HK2.out; omega
                  case rel => exact ⟨(wrap64 (x3_2 + 1)), (by first | rfl | (simp; done) | (simp [*]; done)), H', ⟨by have := HJ1.out; have := HK2.out; omega⟩, ⟨by (with_reducible repeat (first | refine qH ?_ _ | refine qI ?_ | refine qE ?_ _)); exact BK336.out⟩, ⟨by repeat (first | (with_reducible first | exact HB.out | apply qG | apply qD | apply qF | refine qC ?_ GE336.out) | exact HB.out)⟩⟩
              · rw [if_neg c13] at H
                exact absurd H (by simp)
            · rw [if_neg c12] at H
              have c12b0 : decide (x3_2 < (l0_0.length : Int)) = false := decide_eq_false c12
              clear c12
              have H' := Aside0.mk H
              clear H
              have hcz17_0 : wr.cell? ⟨gb336, 0, none⟩ = some (.slice A0_0 l0_0.length c0_0) := (qA BK336.out 0).trans rfl
              have hcz17_1 : wr.cell? ⟨gb336, 1, none⟩ = some (.slice A0_1 l0_1.length c0_1) := (qA BK336.out 1).trans rfl
              have hcz17_2 : wr.cell? ⟨gb336, 2, none⟩ = some (.int .i64 a0_2) := (qA BK336.out 2).trans rfl
              have hcz17_3 : wr.cell? ⟨gb336, 3, none⟩ = some (.int .i64 a0_3) := (qA BK336.out 3).trans rfl
              have hfz17_0 := qB BK336.out 0
              have hfz17_1 := qB BK336.out 1
              have hfz17_2 := qB BK336.out 2
              have hfz17_3 := qB BK336.out 3
              go_wp2
              go_loopg [4] k2 (fun kq v4 w' => ∃ (x4_3 : Int), v4 = .int .i64 x4_3 ∧ Aside0 (spec_l7Ok.l1 kq x4_3 l0_0 l0_1 a0_2 a0_3 = some r) ∧ Aside0 (kq ≤ k2) ∧ Aside0 (w'.heap[gb336]? = some (.cells #[(.slice A0_0 l0_0.length c0_0), (.slice A0_1 l0_1.length c0_1), .int .i64 a0_2, .int .i64 a0_3] 26 (0, 0))) ∧ Aside0 (Below w.heap.size w w'))
              case atStart => exact ⟨(0), (by first | rfl | (simp; done) | (simp [*]; done)), H', ⟨Nat.le_refl _⟩, ⟨by (with_reducible repeat (first | refine qH ?_ _ | refine qI ?_ | refine qE ?_ _)); exact BK336.out⟩, ⟨by repeat (first | (with_reducible first | exact HB.out | apply qG | apply qD | apply qF | refine qC ?_ GE336.out) | exact HB.out)⟩⟩
              case round =>
                clear H'
                try clear c1
                try clear p2
                try clear c3
                try clear p3
                try clear q3
                try clear hx3
                try clear c4
                try clear c4b0
                try clear c4b1
                try clear c5
                try clear c5b0
                try clear c5b1
                try clear p6
                try clear c7
                try clear c7b0
                try clear c11
                try clear c12
                try clear c12b0
                try clear c13
                try clear c13b0
                try clear c14
                try clear c14b0
                try clear c14b1
                try clear hcz10_0
                try clear hcz10_1
                try clear hcz10_2
                try clear hcz10_3
                try clear hcz15_0
                try clear hcz15_1
                try clear hcz15_2
                try clear hcz15_3
                try clear hcz16_0
                try clear hcz16_1
                try clear hcz16_2
                try clear hcz16_3
                try clear hcz17_0
                try clear hcz17_1
                try clear hcz17_2
                try clear hcz17_3
                try clear hcz6_0
                try clear hcz6_1
                try clear hcz6_2
                try clear hcz6_3
                try clear hcz8_0
                try clear hcz8_1
                try clear hcz8_2
                try clear hcz8_3
                try clear hcz9_0
                try clear hcz9_1
                try clear hcz9_2
                try clear hcz9_3
                try clear hfz10_0
                try clear hfz10_1
                try clear hfz10_2
                try clear hfz10_3
                try clear hfz15_0
                try clear hfz15_1
                try clear hfz15_2
                try clear hfz15_3
                try clear hfz16_0
                try clear hfz16_1
                try clear hfz16_2
                try clear hfz16_3
                try clear hfz17_0
                try clear hfz17_1
                try clear hfz17_2
                try clear hfz17_3
                try clear hfz6_0
                try clear hfz6_1
                try clear hfz6_2
                try clear hfz6_3
                try clear hfz8_0
                try clear hfz8_1
                try clear hfz8_2
                try clear hfz8_3
                try clear hfz9_0
                try clear hfz9_1
                try clear hfz9_2
                try clear hfz9_3
                try clear hx337_0
                try clear p2
                try clear p337
                try clear q337
                obtain ⟨x4_3, rfl, HA, HK3, BK336, HB⟩ := hrel
                cases gk with
                | zero => exact absurd HA.out (by simp [spec_l7Ok.l1])
                | succ k3 =>
                  have H := HA.out
                  clear HA
                  simp only [spec_l7Ok.l1] at H
                  by_cases c18 : x4_3 < (l0_1.length : Int)
                  · rw [if_pos c18] at H
                    have c18b0 : decide (x4_3 < (l0_1.length : Int)) = true := decide_eq_true c18
                    clear c18
                    by_cases c19 : 0 ≤ x4_3
                    · rw [if_pos c19] at H
                      have c19b0 : decide (0 ≤ x4_3) = true := decide_eq_true c19
                      clear c19
                      replace H := Option.bind_eq_some_iff.mp H
                      obtain ⟨t339, A200, H⟩ := H
                      replace H : (if t339 = true then (spec_l7Ok.l1 k3 (wrap64 (x4_3 + 1)) l0_0 l0_1 a0_2 a0_3) else (some false)) = some r := H
                      have A20 := Aside0.mk A200
                      clear A200
                      by_cases c21 : t339 = true
                      · subst c21
                        have H1 : (spec_l7Ok.l1 k3 (wrap64 (x4_3 + 1)) l0_0 l0_1 a0_2 a0_3) = some r := by first | rfl | (rw [if_pos rfl] at H; exact H)
                        clear H
                        have H := H1
                        clear H1
                        have H' := Aside0.mk H
                        clear H
                        have hcz22_0 : wr.cell? ⟨gb336, 0, none⟩ = some (.slice A0_0 l0_0.length c0_0) := (qA BK336.out 0).trans rfl
                        have hcz22_1 : wr.cell? ⟨gb336, 1, none⟩ = some (.slice A0_1 l0_1.length c0_1) := (qA BK336.out 1).trans rfl
                        have hcz22_2 : wr.cell? ⟨gb336, 2, none⟩ = some (.int .i64 a0_2) := (qA BK336.out 2).trans rfl
                        have hcz22_3 : wr.cell? ⟨gb336, 3, none⟩ = some (.int .i64 a0_3) := (qA BK336.out 3).trans rfl
                        have hfz22_0 := qB BK336.out 0
                        have hfz22_1 := qB BK336.out 1
                        have hfz22_2 := qB BK336.out 2
                        have hfz22_3 := qB BK336.out 3
                        have p338 : 0 ≤ (x4_3 : Int) := of_decide_eq_true (by first | (with_reducible assumption) | assumption)
                        have q338 : x4_3 < (l0_1.length : Int) := of_decide_eq_true (by first | (with_reducible assumption) | assumption)
                        obtain ⟨ad338, e338, hx338_0, hx338_1⟩ := at_T70 HR0_1.out x4_3 p338 q338
                        cases e338
                        replace hx338_0 := (HB.out.cell (World.block_lt_of_cell? w _ hx338_0)).trans hx338_0
                        replace hx338_1 := (HB.out.cell (World.block_lt_of_cell? w _ hx338_1)).trans hx338_1
                        replace p338 := eq_true p338
                        replace q338 := eq_true q338
                        go_wp2_with (first | ((with_reducible refine qX (f := 67) rfl ?_); refine zM (some 51) rfl rfl Try.func67 (by kernel_rfl) rfl #[.agg #[.int .i64 ((rd_T70 l0_1 x4_3).f0), .string ((rd_T70 l0_1 x4_3).f1)]] rfl (by (try simp only [List.map_toArray, List.map_cons, List.map_nil]); first | done | rfl | (simp only [List.length_drop, List.length_take]; rfl)) ?_; (with_reducible refine (spec_l7Wait.calls ((rd_T70 l0_1 x4_3).f0) ((rd_T70 l0_1 x4_3).f1) true _ A20.out).mono ?_); rintro e w23 ⟨rfl, hb⟩; refine ⟨_, rfl, ?_⟩; have n0_ := Aside0.mk (qL (g := gb336) (o := .cells #[.slice A0_0 l0_0.length c0_0, .slice (some ad338) l0_1.length c0_1, .int .i64 a0_2, .int .i64 a0_3] 26 (0, 0)) (bw_ BK336.out) hb); have n1_ := Aside0.mk (qQ (by repeat (first | (with_reducible first | exact HB.out | apply qG | apply qD | apply qF | refine qC ?_ GE336.out) | exact HB.out)) hb); clear BK336; clear HB; have BK336 := n0_; have HB := n1_; clear n0_ n1_; (try clear hb); (try clear hb2); (try clear hk); (try clear hi)))
                        go_roundg k3
                        case measure => have := HJ1.out; have := HK2.out; have := HK3.out; omega
                        case rel => exact ⟨(wrap64 (x4_3 + 1)), (by first | rfl | (simp; done) | (simp [*]; done)), H', ⟨by have := HJ1.out; have := HK2.out; have := HK3.out; omega⟩, ⟨by (with_reducible repeat (first | refine qH ?_ _ | refine qI ?_ | refine qE ?_ _)); exact BK336.out⟩, ⟨by repeat (first | (with_reducible first | exact HB.out | apply qG | apply qD | apply qF | refine qC ?_ GE336.out) | exact HB.out)⟩⟩
                      · replace c21 := Bool.eq_false_iff.mpr c21
                        subst c21
                        have H1 : (some false) = some r := by first | rfl | (rw [if_neg (show ¬ (false = true) by decide)] at H; exact H)
                        clear H
                        have H := H1
                        clear H1
                        obtain rfl := Option.some.inj H
                        have hcz24_0 : wr.cell? ⟨gb336, 0, none⟩ = some (.slice A0_0 l0_0.length c0_0) := (qA BK336.out 0).trans rfl
                        have hcz24_1 : wr.cell? ⟨gb336, 1, none⟩ = some (.slice A0_1 l0_1.length c0_1) := (qA BK336.out 1).trans rfl
                        have hcz24_2 : wr.cell? ⟨gb336, 2, none⟩ = some (.int .i64 a0_2) := (qA BK336.out 2).trans rfl
                        have hcz24_3 : wr.cell? ⟨gb336, 3, none⟩ = some (.int .i64 a0_3) := (qA BK336.out 3).trans rfl
                        have hfz24_0 := qB BK336.out 0
                        have hfz24_1 := qB BK336.out 1
                        have hfz24_2 := qB BK336.out 2
                        have hfz24_3 := qB BK336.out 3
                        have p338 : 0 ≤ (x4_3 : Int) := of_decide_eq_true (by first | (with_reducible assumption) | assumption)
                        have q338 : x4_3 < (l0_1.length : Int) := of_decide_eq_true (by first | (with_reducible assumption) | assumption)
                        obtain ⟨ad338, e338, hx338_0, hx338_1⟩ := at_T70 HR0_1.out x4_3 p338 q338
                        cases e338
                        replace hx338_0 := (HB.out.cell (World.block_lt_of_cell? w _ hx338_0)).trans hx338_0
                        replace hx338_1 := (HB.out.cell (World.block_lt_of_cell? w _ hx338_1)).trans hx338_1
                        replace p338 := eq_true p338
                        replace q338 := eq_true q338
                        go_wp2_with (first | ((with_reducible refine qX (f := 67) rfl ?_); refine zM (some 51) rfl rfl Try.func67 (by kernel_rfl) rfl #[.agg #[.int .i64 ((rd_T70 l0_1 x4_3).f0), .string ((rd_T70 l0_1 x4_3).f1)]] rfl (by (try simp only [List.map_toArray, List.map_cons, List.map_nil]); first | done | rfl | (simp only [List.length_drop, List.length_take]; rfl)) ?_; (with_reducible refine (spec_l7Wait.calls ((rd_T70 l0_1 x4_3).f0) ((rd_T70 l0_1 x4_3).f1) false _ A20.out).mono ?_); rintro e w25 ⟨rfl, hb⟩; refine ⟨_, rfl, ?_⟩; have n0_ := Aside0.mk (qL (g := gb336) (o := .cells #[.slice A0_0 l0_0.length c0_0, .slice (some ad338) l0_1.length c0_1, .int .i64 a0_2, .int .i64 a0_3] 26 (0, 0)) (bw_ BK336.out) hb); have n1_ := Aside0.mk (qQ (by repeat (first | (with_reducible first | exact HB.out | apply qG | apply qD | apply qF | refine qC ?_ GE336.out) | exact HB.out)) hb); clear BK336; clear HB; have BK336 := n0_; have HB := n1_; clear n0_ n1_; (try clear hb); (try clear hb2); (try clear hk); (try clear hi)))
                        go_ret
                        exact ⟨by first | rfl | (simp [errW_none, errW_some] <;> rfl) | (simp [*, errW_none, errW_some] <;> rfl), by repeat (first | (with_reducible first | exact HB.out | apply qG | apply qD | apply qF | refine qC ?_ GE336.out) | exact HB.out)⟩
                    · rw [if_neg c19] at H
                      exact absurd H (by simp)
                  · rw [if_neg c18] at H
                    have c18b0 : decide (x4_3 < (l0_1.length : Int)) = false := decide_eq_false c18
                    clear c18
                    obtain rfl := Option.some.inj H
                    have hcz26_0 : wr.cell? ⟨gb336, 0, none⟩ = some (.slice A0_0 l0_0.length c0_0) := (qA BK336.out 0).trans rfl
                    have hcz26_1 : wr.cell? ⟨gb336, 1, none⟩ = some (.slice A0_1 l0_1.length c0_1) := (qA BK336.out 1).trans rfl
                    have hcz26_2 : wr.cell? ⟨gb336, 2, none⟩ = some (.int .i64 a0_2) := (qA BK336.out 2).trans rfl
                    have hcz26_3 : wr.cell? ⟨gb336, 3, none⟩ = some (.int .i64 a0_3) := (qA BK336.out 3).trans rfl
                    have hfz26_0 := qB BK336.out 0
                    have hfz26_1 := qB BK336.out 1
                    have hfz26_2 := qB BK336.out 2
                    have hfz26_3 := qB BK336.out 3
                    go_wp2
                    go_ret
                    exact ⟨by first | rfl | (simp [errW_none, errW_some] <;> rfl) | (simp [*, errW_none, errW_some] <;> rfl), by repeat (first | (with_reducible first | exact HB.out | apply qG | apply qD | apply qF | refine qC ?_ GE336.out) | exact HB.out)⟩

/-! ### spec_DiskWrite: function 18 -/
def spec_DiskWrite.f (k : Nat) (l0_0 : List ByteArray) (l0_1 : List (S70)) (a0_2 : Int) (a0_3 : Int) (a1 : Int) (a2 : ByteArray) : Option (List ByteArray × (List (S70)) × Int × Int × Bool) := (spec_l7Ok.f k l0_0 l0_1 a0_2 a0_3).bind fun t342 => (if t342 = true then ((spec_l7Write.f k l0_0 l0_1 a0_2 a0_3 a1 a2).bind fun bt343 => (some (bt343.1, bt343.2.1, bt343.2.2.1, bt343.2.2.2.1, bt343.2.2.2.2))) else (some (([] : List ByteArray), ([] : List (S70)), 0, 0, false)))
theorem spec_DiskWrite.mono : ∀ a0 a1 a2 a3 a4 a5 k, LeO (spec_DiskWrite.f k a0 a1 a2 a3 a4 a5) (spec_DiskWrite.f (k + 1) a0 a1 a2 a3 a4 a5) := by
  intro a0 a1 a2 a3 a4 a5 k
  unfold spec_DiskWrite.f
  repeat' first
      | (with_reducible exact spec_l7Ok.mono _ _ _ _ _)
      | (with_reducible exact spec_l7Write.mono _ _ _ _ _ _ _)
      | (with_reducible exact LeO.refl _)
      | (with_reducible exact LeO.none _)
      | (with_reducible refine LeO.ite ?_ ?_)
      | (with_reducible refine LeO.bind ?_ (fun _ => ?_))
      | exact spec_l7Ok.mono _ _ _ _ _
      | exact spec_l7Write.mono _ _ _ _ _ _ _
      | exact LeO.none _
      | refine LeO.ite ?_ ?_
      | refine LeO.bind ?_ (fun _ => ?_)
set_option maxHeartbeats 8000000 in
set_option maxRecDepth 100000 in
theorem spec_DiskWrite.calls (k : Nat) (A0_0 : Option Addr) (c0_0 : Nat) (l0_0 : List ByteArray) (A0_1 : Option Addr) (c0_1 : Nat) (l0_1 : List (S70)) (a0_2 : Int) (a0_3 : Int) (a1 : Int) (a2 : ByteArray) (r1 : List ByteArray) (r2 : List (S70)) (r3 : Int) (r4 : Int) (r5 : Bool) (w : World) (hr0_0 : Kd.C Kd.string w A0_0 l0_0.length l0_0) (hc0_0 : l0_0.length ≤ c0_0) (hr0_1 : Kd.C k70 w A0_1 l0_1.length l0_1) (hc0_1 : l0_1.length ≤ c0_1) (h : spec_DiskWrite.f k l0_0 l0_1 a0_2 a0_3 a1 a2 = some (r1, r2, r3, r4, r5)) :
    Calls Try.prog 18 #[.agg #[.slice A0_0 l0_0.length c0_0, .slice A0_1 l0_1.length c0_1, .int .i64 a0_2, .int .i64 a0_3], .int .i64 a1, .string a2] w fun e w' => ∃ v0_ v1_ : Value, e = .returned (.tuple #[.agg #[v0_, v1_, .int .i64 r3, .int .i64 r4], .bool r5]) ∧ Kd.R Kd.string 9 w' w.heap.size (fun _ => True) v0_ r1 ∧ Kd.R k70 70 w' w.heap.size (fun _ => True) v1_ r2 ∧ Below w.heap.size w w' := by
  have hu26 := Try.underlying26
  have HR0_0 := Aside0.mk hr0_0
  have HC0_0 := Aside0.mk hc0_0
  clear hr0_0 hc0_0
  have HR0_1 := Aside0.mk hr0_1
  have HC0_1 := Aside0.mk hc0_1
  clear hr0_1 hc0_1
  have HB := Aside0.mk (Below.refl w.heap.size w)
  have H : ((spec_l7Ok.f k l0_0 l0_1 a0_2 a0_3).bind fun t342 => (if t342 = true then ((spec_l7Write.f k l0_0 l0_1 a0_2 a0_3 a1 a2).bind fun bt343 => (some (bt343.1, bt343.2.1, bt343.2.2.1, bt343.2.2.2.1, bt343.2.2.2.2))) else (some (([] : List ByteArray), ([] : List (S70)), 0, 0, false)))) = some (r1, r2, r3, r4, r5) := h
  clear h
  replace H := Option.bind_eq_some_iff.mp H
  obtain ⟨t342, A40, H⟩ := H
  replace H : (if t342 = true then ((spec_l7Write.f k l0_0 l0_1 a0_2 a0_3 a1 a2).bind fun bt343 => (some (bt343.1, bt343.2.1, bt343.2.2.1, bt343.2.2.2.1, bt343.2.2.2.2))) else (some (([] : List ByteArray), ([] : List (S70)), 0, 0, false))) = some (r1, r2, r3, r4, r5) := H
  have A4 := Aside0.mk A40
  clear A40
  by_cases c5 : t342 = true
  · subst c5
    have H1 : ((spec_l7Write.f k l0_0 l0_1 a0_2 a0_3 a1 a2).bind fun bt343 => (some (bt343.1, bt343.2.1, bt343.2.2.1, bt343.2.2.2.1, bt343.2.2.2.2))) = some (r1, r2, r3, r4, r5) := by first | rfl | (rw [if_pos rfl] at H; exact H)
    clear H
    have H := H1
    clear H1
    replace H := Option.bind_eq_some_iff.mp H
    obtain ⟨⟨t343, t346, t349, t350, t351⟩, A60, H⟩ := H
    replace H : (some (t343, t346, t349, t350, t351)) = some (r1, r2, r3, r4, r5) := H
    have A6 := Aside0.mk A60
    clear A60
    simp only [Option.some.injEq, Prod.mk.injEq] at H
    obtain ⟨rfl, rfl, rfl, rfl, rfl⟩ := H
    go_enter Try.func18, Try.ntmps18
    go_wp2_with (first | ((with_reducible refine qZ (N := 3) rfl ?_); refine qY ?hg (N := 3) ?hd (cs := #[.slice A0_0 l0_0.length c0_0, .slice A0_1 l0_1.length c0_1, .int .i64 a0_2, .int .i64 a0_3]) (t := 26) ?hr ?_; (case hd => rfl); (case hg => rfl); (case hr => first | (go_simp; done) | (go_simp; rfl)); intro gb340 hg w7 hbox hb; have n0_ := Aside0.mk (qQ (by repeat (first | (with_reducible first | exact HB.out | apply qG | apply qD | apply qF) | exact HB.out)) hb); have n1_ := Aside0.mk (hbox); have n2_ := Aside0.mk ((by rw [hg]; exact (qP (by repeat (first | (with_reducible first | exact HB.out | apply qG | apply qD | apply qF) | exact HB.out))) : w.heap.size ≤ gb340)); have n3_ := Aside0.mk ((by rw [hg]; exact (qP (by repeat (first | (with_reducible first | exact HB.out | apply qG | apply qD | apply qF) | exact HB.out))) : w.heap.size ≤ gb340)); clear HB; have HB := n0_; have BK340 := n1_; have GW340 := n2_; have GE340 := n3_; clear n0_ n1_ n2_ n3_; clear hb hbox hg) | ((with_reducible refine qZ (N := 6) rfl ?_); refine qY ?hg (N := 6) ?hd (cs := #[.slice none 0 0, .slice none 0 0, .int .i64 0, .int .i64 0]) (t := 26) ?hr ?_; (case hd => rfl); (case hg => rfl); (case hr => first | (go_simp; done) | (go_simp; rfl)); intro gb341 hg w8 hbox hb; have n0_ := Aside0.mk (qL (g := gb340) (o := .cells #[.slice A0_0 l0_0.length c0_0, .slice A0_1 l0_1.length c0_1, .int .i64 a0_2, .int .i64 a0_3] 26 (0, 0)) (bw_ BK340.out) hb); have n1_ := Aside0.mk (qQ (by repeat (first | (with_reducible first | exact HB.out | apply qG | apply qD | apply qF | refine qC ?_ GE340.out) | exact HB.out)) hb); have n2_ := Aside0.mk (hbox); have n3_ := Aside0.mk ((by rw [hg]; exact (qP (by repeat (first | (with_reducible first | exact HB.out | apply qG | apply qD | apply qF | refine qC ?_ GE340.out) | exact HB.out))) : w.heap.size ≤ gb341)); have n4_ := Aside0.mk ((by rw [hg]; exact (qP (by repeat (first | (with_reducible first | exact HB.out | apply qG | apply qD | apply qF | refine qC ?_ GE340.out) | exact HB.out))) : w.heap.size ≤ gb341)); have n5_ := Aside0.mk ((by rw [hg]; exact Nat.ne_of_lt (zE (g := gb340) (o := .cells #[.slice A0_0 l0_0.length c0_0, .slice A0_1 l0_1.length c0_1, .int .i64 a0_2, .int .i64 a0_3] 26 (0, 0)) (bw_ BK340.out)) : gb340 ≠ gb341)); have n6_ := Aside0.mk ((by rw [hg]; exact Nat.ne_of_gt (zE (g := gb340) (o := .cells #[.slice A0_0 l0_0.length c0_0, .slice A0_1 l0_1.length c0_1, .int .i64 a0_2, .int .i64 a0_3] 26 (0, 0)) (bw_ BK340.out)) : gb341 ≠ gb340)); clear BK340; clear HB; have BK340 := n0_; have HB := n1_; have BK341 := n2_; have GW341 := n3_; have GE341 := n4_; have NB340_341 := n5_; have NB341_340 := n6_; clear n0_ n1_ n2_ n3_ n4_ n5_ n6_; clear hb hbox hg; have hnb9 := NB340_341.out; have hnc9 := NB341_340.out; have hcz10_0 : w8.cell? ⟨gb340, 0, none⟩ = some (.slice A0_0 l0_0.length c0_0) := (qA BK340.out 0).trans rfl; have hcz10_1 : w8.cell? ⟨gb340, 1, none⟩ = some (.slice A0_1 l0_1.length c0_1) := (qA BK340.out 1).trans rfl; have hcz10_2 : w8.cell? ⟨gb340, 2, none⟩ = some (.int .i64 a0_2) := (qA BK340.out 2).trans rfl; have hcz10_3 : w8.cell? ⟨gb340, 3, none⟩ = some (.int .i64 a0_3) := (qA BK340.out 3).trans rfl; have hfz10_0 := qB BK340.out 0; have hfz10_1 := qB BK340.out 1; have hfz10_2 := qB BK340.out 2; have hfz10_3 := qB BK340.out 3) | ((with_reducible refine qX (f := 37) rfl ?_); refine zM (some 9) rfl rfl Try.func37 (by kernel_rfl) rfl #[.agg #[.slice A0_0 l0_0.length c0_0, .slice A0_1 l0_1.length c0_1, .int .i64 a0_2, .int .i64 a0_3]] rfl (by (try simp only [List.map_toArray, List.map_cons, List.map_nil]); first | done | rfl | (simp only [List.length_drop, List.length_take]; rfl)) ?_; (with_reducible refine (spec_l7Ok.calls k _ _ l0_0 _ _ l0_1 a0_2 a0_3 true _ ?side1 ?side2 ?side3 ?side4 A4.out).mono ?_); (case side1 => repeat (first | exact (Kd.zH HR0_0.out HB.out) | (with_reducible refine Kd.zF ?_ _) | (with_reducible refine Kd.zG ?_ _) | (with_reducible refine Kd.zL ?_))); (case side2 => exact HC0_0.out); (case side3 => repeat (first | exact (Kd.zH HR0_1.out HB.out) | (with_reducible refine Kd.zF ?_ _) | (with_reducible refine Kd.zG ?_ _) | (with_reducible refine Kd.zL ?_))); (case side4 => exact HC0_1.out); rintro e w11 ⟨rfl, hb⟩; refine ⟨_, rfl, ?_⟩; have n0_ := Aside0.mk (qL (g := gb340) (o := .cells #[.slice A0_0 l0_0.length c0_0, .slice A0_1 l0_1.length c0_1, .int .i64 a0_2, .int .i64 a0_3] 26 (0, 0)) (bw_ BK340.out) hb); have n1_ := Aside0.mk (qL (g := gb341) (o := .cells #[.slice none 0 0, .slice none 0 0, .int .i64 0, .int .i64 0] 26 (0, 0)) (bw_ BK341.out) hb); have n2_ := Aside0.mk (qQ (by repeat (first | (with_reducible first | exact HB.out | apply qG | apply qD | apply qF | refine qC ?_ GE340.out | refine qC ?_ GE341.out) | exact HB.out)) hb); clear BK340; clear BK341; clear HB; have BK340 := n0_; have BK341 := n1_; have HB := n2_; clear n0_ n1_ n2_; (try clear hb); (try clear hb2); (try clear hk); (try clear hi); have hcz12_0 : w11.cell? ⟨gb340, 0, none⟩ = some (.slice A0_0 l0_0.length c0_0) := (qA BK340.out 0).trans rfl; have hcz12_1 : w11.cell? ⟨gb340, 1, none⟩ = some (.slice A0_1 l0_1.length c0_1) := (qA BK340.out 1).trans rfl; have hcz12_2 : w11.cell? ⟨gb340, 2, none⟩ = some (.int .i64 a0_2) := (qA BK340.out 2).trans rfl; have hcz12_3 : w11.cell? ⟨gb340, 3, none⟩ = some (.int .i64 a0_3) := (qA BK340.out 3).trans rfl; have hfz12_0 := qB BK340.out 0; have hfz12_1 := qB BK340.out 1; have hfz12_2 := qB BK340.out 2; have hfz12_3 := qB BK340.out 3) | ((with_reducible refine qX (f := 43) rfl ?_); refine zM (some 15) rfl rfl Try.func43 (by kernel_rfl) rfl #[.agg #[.slice A0_0 l0_0.length c0_0, .slice A0_1 l0_1.length c0_1, .int .i64 a0_2, .int .i64 a0_3], .int .i64 a1, .string a2] rfl (by (try simp only [List.map_toArray, List.map_cons, List.map_nil]); first | done | rfl | (simp only [List.length_drop, List.length_take]; rfl)) ?_; (with_reducible refine (spec_l7Write.calls k _ _ l0_0 _ _ l0_1 a0_2 a0_3 a1 a2 t343 t346 t349 t350 t351 _ ?side1 ?side2 ?side3 ?side4 A6.out).mono ?_); (case side1 => repeat (first | exact (Kd.zH HR0_0.out HB.out) | (with_reducible refine Kd.zF ?_ _) | (with_reducible refine Kd.zG ?_ _) | (with_reducible refine Kd.zL ?_))); (case side2 => exact HC0_0.out); (case side3 => repeat (first | exact (Kd.zH HR0_1.out HB.out) | (with_reducible refine Kd.zF ?_ _) | (with_reducible refine Kd.zG ?_ _) | (with_reducible refine Kd.zL ?_))); (case side4 => exact HC0_1.out); rintro e w13 ⟨v344, v347, rfl, ho0, ho1, hb⟩; refine ⟨_, rfl, ?_⟩; have n0_ := Aside0.mk (Kd.zJ ho0 (qP (by repeat (first | (with_reducible first | exact HB.out | apply qG | apply qD | apply qF | refine qC ?_ GE340.out | refine qC ?_ GE341.out) | exact HB.out)))); have n1_ := Aside0.mk (Kd.zJ ho1 (qP (by repeat (first | (with_reducible first | exact HB.out | apply qG | apply qD | apply qF | refine qC ?_ GE340.out | refine qC ?_ GE341.out) | exact HB.out)))); have n2_ := Aside0.mk (qL (g := gb340) (o := .cells #[.slice A0_0 l0_0.length c0_0, .slice A0_1 l0_1.length c0_1, .int .i64 a0_2, .int .i64 a0_3] 26 (0, 0)) (bw_ BK340.out) hb); have n3_ := Aside0.mk (qL (g := gb341) (o := .cells #[.slice none 0 0, .slice none 0 0, .int .i64 0, .int .i64 0] 26 (0, 0)) (bw_ BK341.out) hb); have n4_ := Aside0.mk (qQ (by repeat (first | (with_reducible first | exact HB.out | apply qG | apply qD | apply qF | refine qC ?_ GE340.out | refine qC ?_ GE341.out) | exact HB.out)) hb); clear BK340; clear BK341; clear HB; have HO345 := n0_; have HO348 := n1_; have BK340 := n2_; have BK341 := n3_; have HB := n4_; clear n0_ n1_ n2_ n3_ n4_; (try clear hb); (try clear hb2); (try clear hk); (try clear hi); (try clear ho0); (try clear ho1); obtain ⟨Ao14, co14, eo14⟩ := Kd.zD HO345.out; subst eo14; have hcz15_0 : w13.cell? ⟨gb341, 0, none⟩ = some (.slice none 0 0) := (qA BK341.out 0).trans rfl; have hcz15_1 : w13.cell? ⟨gb341, 1, none⟩ = some (.slice none 0 0) := (qA BK341.out 1).trans rfl; have hcz15_2 : w13.cell? ⟨gb341, 2, none⟩ = some (.int .i64 0) := (qA BK341.out 2).trans rfl; have hcz15_3 : w13.cell? ⟨gb341, 3, none⟩ = some (.int .i64 0) := (qA BK341.out 3).trans rfl; have hfz15_0 := qB BK341.out 0; have hfz15_1 := qB BK341.out 1; have hfz15_2 := qB BK341.out 2; have hfz15_3 := qB BK341.out 3; obtain ⟨Ao16, co16, eo16⟩ := Kd.zD HO348.out; subst eo16))
    refine bodyPost_ret (results_ct rfl _ _ gb341 26 #[.slice Ao14 t343.length co14, .slice Ao16 t346.length co16, .int .i64 t349, .int .i64 t350] (0, 0) _ rfl (by (with_reducible repeat (first | refine qH ?_ _ | refine qI ?_ | refine qE ?_ _)); refine qN (cs := #[.slice Ao14 t343.length co14, .slice Ao16 t346.length co16, .int .i64 t349, .int .i64 0]) ?_ 3 _ rfl; (with_reducible repeat (first | refine qH ?_ _ | refine qI ?_ | refine qE ?_ _)); refine qN (cs := #[.slice Ao14 t343.length co14, .slice Ao16 t346.length co16, .int .i64 0, .int .i64 0]) ?_ 2 _ rfl; (with_reducible repeat (first | refine qH ?_ _ | refine qI ?_ | refine qE ?_ _)); refine qN (cs := #[.slice Ao14 t343.length co14, .slice none 0 0, .int .i64 0, .int .i64 0]) ?_ 1 _ rfl; (with_reducible repeat (first | refine qH ?_ _ | refine qI ?_ | refine qE ?_ _)); refine qN (cs := #[.slice none 0 0, .slice none 0 0, .int .i64 0, .int .i64 0]) ?_ 0 _ rfl; (with_reducible repeat (first | refine qH ?_ _ | refine qI ?_ | refine qE ?_ _)); exact BK341.out) Try.underlying26 rfl (by kernel_rfl)) rfl ?_
    exact ⟨_, _, by first | rfl | (simp [errW_none, errW_some] <;> rfl) | (simp [*, errW_none, errW_some] <;> rfl), by (with_reducible repeat (first | apply Kd.qU | apply Kd.qT | apply Kd.qV)); exact Kd.qS (Kd.R_far (p := ⟨gb341, 3, none⟩) (Kd.R_far (p := ⟨gb341, 2, none⟩) (Kd.R_far (p := ⟨gb341, 1, none⟩) (Kd.R_far (p := ⟨gb341, 0, none⟩) (Kd.qW HO345.out BK341.out (by decide)) (fun _ hk => hk.2) (.slice Ao14 t343.length co14)) (fun _ hk => hk.2) (.slice Ao16 t346.length co16)) (fun _ hk => hk.2) (.int .i64 t349)) (fun _ hk => hk.2) (.int .i64 t350)) (fun _ hk => trivial), by (with_reducible repeat (first | apply Kd.qU | apply Kd.qT | apply Kd.qV)); exact Kd.qS (Kd.R_far (p := ⟨gb341, 3, none⟩) (Kd.R_far (p := ⟨gb341, 2, none⟩) (Kd.R_far (p := ⟨gb341, 1, none⟩) (Kd.R_far (p := ⟨gb341, 0, none⟩) (Kd.qW HO348.out BK341.out (by decide)) (fun _ hk => hk.2) (.slice Ao14 t343.length co14)) (fun _ hk => hk.2) (.slice Ao16 t346.length co16)) (fun _ hk => hk.2) (.int .i64 t349)) (fun _ hk => hk.2) (.int .i64 t350)) (fun _ hk => trivial), by repeat (first | (with_reducible first | exact HB.out | apply qG | apply qD | apply qF | refine qC ?_ GE340.out | refine qC ?_ GE341.out) | exact HB.out)⟩
  · replace c5 := Bool.eq_false_iff.mpr c5
    subst c5
    have H1 : (some (([] : List ByteArray), ([] : List (S70)), 0, 0, false)) = some (r1, r2, r3, r4, r5) := by first | rfl | (rw [if_neg (show ¬ (false = true) by decide)] at H; exact H)
    clear H
    have H := H1
    clear H1
    simp only [Option.some.injEq, Prod.mk.injEq] at H
    obtain ⟨rfl, rfl, rfl, rfl, rfl⟩ := H
    go_enter Try.func18, Try.ntmps18
    go_wp2_with (first | ((with_reducible refine qZ (N := 3) rfl ?_); refine qY ?hg (N := 3) ?hd (cs := #[.slice A0_0 l0_0.length c0_0, .slice A0_1 l0_1.length c0_1, .int .i64 a0_2, .int .i64 a0_3]) (t := 26) ?hr ?_; (case hd => rfl); (case hg => rfl); (case hr => first | (go_simp; done) | (go_simp; rfl)); intro gb340 hg w17 hbox hb; have n0_ := Aside0.mk (qQ (by repeat (first | (with_reducible first | exact HB.out | apply qG | apply qD | apply qF) | exact HB.out)) hb); have n1_ := Aside0.mk (hbox); have n2_ := Aside0.mk ((by rw [hg]; exact (qP (by repeat (first | (with_reducible first | exact HB.out | apply qG | apply qD | apply qF) | exact HB.out))) : w.heap.size ≤ gb340)); have n3_ := Aside0.mk ((by rw [hg]; exact (qP (by repeat (first | (with_reducible first | exact HB.out | apply qG | apply qD | apply qF) | exact HB.out))) : w.heap.size ≤ gb340)); clear HB; have HB := n0_; have BK340 := n1_; have GW340 := n2_; have GE340 := n3_; clear n0_ n1_ n2_ n3_; clear hb hbox hg) | ((with_reducible refine qZ (N := 6) rfl ?_); refine qY ?hg (N := 6) ?hd (cs := #[.slice none 0 0, .slice none 0 0, .int .i64 0, .int .i64 0]) (t := 26) ?hr ?_; (case hd => rfl); (case hg => rfl); (case hr => first | (go_simp; done) | (go_simp; rfl)); intro gb341 hg w18 hbox hb; have n0_ := Aside0.mk (qL (g := gb340) (o := .cells #[.slice A0_0 l0_0.length c0_0, .slice A0_1 l0_1.length c0_1, .int .i64 a0_2, .int .i64 a0_3] 26 (0, 0)) (bw_ BK340.out) hb); have n1_ := Aside0.mk (qQ (by repeat (first | (with_reducible first | exact HB.out | apply qG | apply qD | apply qF | refine qC ?_ GE340.out) | exact HB.out)) hb); have n2_ := Aside0.mk (hbox); have n3_ := Aside0.mk ((by rw [hg]; exact (qP (by repeat (first | (with_reducible first | exact HB.out | apply qG | apply qD | apply qF | refine qC ?_ GE340.out) | exact HB.out))) : w.heap.size ≤ gb341)); have n4_ := Aside0.mk ((by rw [hg]; exact (qP (by repeat (first | (with_reducible first | exact HB.out | apply qG | apply qD | apply qF | refine qC ?_ GE340.out) | exact HB.out))) : w.heap.size ≤ gb341)); have n5_ := Aside0.mk ((by rw [hg]; exact Nat.ne_of_lt (zE (g := gb340) (o := .cells #[.slice A0_0 l0_0.length c0_0, .slice A0_1 l0_1.length c0_1, .int .i64 a0_2, .int .i64 a0_3] 26 (0, 0)) (bw_ BK340.out)) : gb340 ≠ gb341)); have n6_ := Aside0.mk ((by rw [hg]; exact Nat.ne_of_gt (zE (g := gb340) (o := .cells #[.slice A0_0 l0_0.length c0_0, .slice A0_1 l0_1.length c0_1, .int .i64 a0_2, .int .i64 a0_3] 26 (0, 0)) (bw_ BK340.out)) : gb341 ≠ gb340)); clear BK340; clear HB; have BK340 := n0_; have HB := n1_; have BK341 := n2_; have GW341 := n3_; have GE341 := n4_; have NB340_341 := n5_; have NB341_340 := n6_; clear n0_ n1_ n2_ n3_ n4_ n5_ n6_; clear hb hbox hg; have hnb19 := NB340_341.out; have hnc19 := NB341_340.out; have hcz20_0 : w18.cell? ⟨gb340, 0, none⟩ = some (.slice A0_0 l0_0.length c0_0) := (qA BK340.out 0).trans rfl; have hcz20_1 : w18.cell? ⟨gb340, 1, none⟩ = some (.slice A0_1 l0_1.length c0_1) := (qA BK340.out 1).trans rfl; have hcz20_2 : w18.cell? ⟨gb340, 2, none⟩ = some (.int .i64 a0_2) := (qA BK340.out 2).trans rfl; have hcz20_3 : w18.cell? ⟨gb340, 3, none⟩ = some (.int .i64 a0_3) := (qA BK340.out 3).trans rfl; have hfz20_0 := qB BK340.out 0; have hfz20_1 := qB BK340.out 1; have hfz20_2 := qB BK340.out 2; have hfz20_3 := qB BK340.out 3) | ((with_reducible refine qX (f := 37) rfl ?_); refine zM (some 9) rfl rfl Try.func37 (by kernel_rfl) rfl #[.agg #[.slice A0_0 l0_0.length c0_0, .slice A0_1 l0_1.length c0_1, .int .i64 a0_2, .int .i64 a0_3]] rfl (by (try simp only [List.map_toArray, List.map_cons, List.map_nil]); first | done | rfl | (simp only [List.length_drop, List.length_take]; rfl)) ?_; (with_reducible refine (spec_l7Ok.calls k _ _ l0_0 _ _ l0_1 a0_2 a0_3 false _ ?side1 ?side2 ?side3 ?side4 A4.out).mono ?_); (case side1 => repeat (first | exact (Kd.zH HR0_0.out HB.out) | (with_reducible refine Kd.zF ?_ _) | (with_reducible refine Kd.zG ?_ _) | (with_reducible refine Kd.zL ?_))); (case side2 => exact HC0_0.out); (case side3 => repeat (first | exact (Kd.zH HR0_1.out HB.out) | (with_reducible refine Kd.zF ?_ _) | (with_reducible refine Kd.zG ?_ _) | (with_reducible refine Kd.zL ?_))); (case side4 => exact HC0_1.out); rintro e w21 ⟨rfl, hb⟩; refine ⟨_, rfl, ?_⟩; have n0_ := Aside0.mk (qL (g := gb340) (o := .cells #[.slice A0_0 l0_0.length c0_0, .slice A0_1 l0_1.length c0_1, .int .i64 a0_2, .int .i64 a0_3] 26 (0, 0)) (bw_ BK340.out) hb); have n1_ := Aside0.mk (qL (g := gb341) (o := .cells #[.slice none 0 0, .slice none 0 0, .int .i64 0, .int .i64 0] 26 (0, 0)) (bw_ BK341.out) hb); have n2_ := Aside0.mk (qQ (by repeat (first | (with_reducible first | exact HB.out | apply qG | apply qD | apply qF | refine qC ?_ GE340.out | refine qC ?_ GE341.out) | exact HB.out)) hb); clear BK340; clear BK341; clear HB; have BK340 := n0_; have BK341 := n1_; have HB := n2_; clear n0_ n1_ n2_; (try clear hb); (try clear hb2); (try clear hk); (try clear hi); have hcz22_0 : w21.cell? ⟨gb341, 0, none⟩ = some (.slice none 0 0) := (qA BK341.out 0).trans rfl; have hcz22_1 : w21.cell? ⟨gb341, 1, none⟩ = some (.slice none 0 0) := (qA BK341.out 1).trans rfl; have hcz22_2 : w21.cell? ⟨gb341, 2, none⟩ = some (.int .i64 0) := (qA BK341.out 2).trans rfl; have hcz22_3 : w21.cell? ⟨gb341, 3, none⟩ = some (.int .i64 0) := (qA BK341.out 3).trans rfl; have hfz22_0 := qB BK341.out 0; have hfz22_1 := qB BK341.out 1; have hfz22_2 := qB BK341.out 2; have hfz22_3 := qB BK341.out 3))
    refine bodyPost_ret (results_ct rfl _ _ gb341 26 #[.slice none 0 0, .slice none 0 0, .int .i64 0, .int .i64 0] (0, 0) _ rfl (by (with_reducible repeat (first | refine qH ?_ _ | refine qI ?_ | refine qE ?_ _)); refine qN (cs := #[.slice none 0 0, .slice none 0 0, .int .i64 0, .int .i64 0]) ?_ 3 _ rfl; (with_reducible repeat (first | refine qH ?_ _ | refine qI ?_ | refine qE ?_ _)); refine qN (cs := #[.slice none 0 0, .slice none 0 0, .int .i64 0, .int .i64 0]) ?_ 2 _ rfl; (with_reducible repeat (first | refine qH ?_ _ | refine qI ?_ | refine qE ?_ _)); refine qN (cs := #[.slice none 0 0, .slice none 0 0, .int .i64 0, .int .i64 0]) ?_ 1 _ rfl; (with_reducible repeat (first | refine qH ?_ _ | refine qI ?_ | refine qE ?_ _)); refine qN (cs := #[.slice none 0 0, .slice none 0 0, .int .i64 0, .int .i64 0]) ?_ 0 _ rfl; (with_reducible repeat (first | refine qH ?_ _ | refine qI ?_ | refine qE ?_ _)); exact BK341.out) Try.underlying26 rfl (by kernel_rfl)) rfl ?_
    exact ⟨_, _, by first | rfl | (simp [errW_none, errW_some] <;> rfl) | (simp [*, errW_none, errW_some] <;> rfl), by first | exact Kd.R_nil _ _ _ _ _ | exact Kd.N_nil _ _ _ _ _ | exact Kd.V_nil _ _ _ _ _ | exact Kd.Q_nil _ _ _ _ _ | exact Kd.S_nil _ _ _ _ _, by first | exact Kd.R_nil _ _ _ _ _ | exact Kd.N_nil _ _ _ _ _ | exact Kd.V_nil _ _ _ _ _ | exact Kd.Q_nil _ _ _ _ _ | exact Kd.S_nil _ _ _ _ _, by repeat (first | (with_reducible first | exact HB.out | apply qG | apply qD | apply qF | refine qC ?_ GE340.out | refine qC ?_ GE341.out) | exact HB.out)⟩

/-! ### impl_DiskRead: function 21 (a contract of this session's) -/
section
open Go.Shelf
attribute [local go_sem] Oper.semAt_some
/-- What a walk backward has handed over when k rounds are over. -/
def backTo (zs : List S70) (k : Nat) : List (Int × S70) := (List.range k).map fun j => (((zs.length - 1 - j : Nat) : Int), rd_T70 zs ((zs.length - 1 - j : Nat) : Int))
theorem backTo_succ (zs : List S70) (k : Nat) : backTo zs (k + 1) = backTo zs k ++ [(((zs.length - 1 - k : Nat) : Int), rd_T70 zs ((zs.length - 1 - k : Nat) : Int))] := by simp [backTo, List.range_succ]
theorem backTo_length (zs : List S70) (k : Nat) : (backTo zs k).length = k := by simp [backTo]
set_option maxRecDepth 100000 in
set_option maxHeartbeats 2000000 in
theorem impl_DiskRead.back1 (F : Fence) (n : Nat) (h71 : F.fn 71) (hro : F.round = none) (hn : 1 ≤ n) (l Bs n₀ : Nat) (A : Option Addr) (cap : Nat) (zs : List S70) (hlen : zs.length ≤ 1000000) (hBn : Bs < n₀) (J Jx : List (Int × S70) → World → Prop)
    (hY : ∀ pre x W, J pre W → pre.length < zs.length → YieldAt F (n - 1) Try.prog l #[.int .i64 x.1, .agg #[.int .i64 x.2.f0, .string x.2.f1]] W fun e W' =>
      (e = .returned (.bool true) ∧ J (pre ++ [x]) W' ∧ Below n₀ W W') ∨ (e = .returned (.bool false) ∧ Jx (pre ++ [x]) W'))
    (W : World) (hBs : W.cell? ⟨Bs, 0, none⟩ = some (.slice A zs.length cap)) (hC : ∀ W', Below n₀ W W' → Kd.C k70 W' A zs.length zs) (h0 : J [] W) :
    CallsIn F n Try.prog 71 #[.func (.yield l) #[] #[], .pointer (some ⟨Bs, 0, none⟩)] W fun e W' => (∃ v, e = .returned v) ∧
      ((∃ ys, ys = backTo zs zs.length ∧ J ys W') ∨ (∃ pre, (∃ k, k ≤ zs.length ∧ pre = backTo zs k) ∧ Jx pre W')) := by
  refine callsIn_of_wp Try.func71 rfl h71 ?_ hro
  simp only [Try.ntmps71, List.size_toArray, List.length_cons, List.length_nil, Nat.reduceAdd, Nat.reduceSub, Array.replicate_succ, Array.replicate_zero, List.push_toArray, List.append_toArray, List.nil_append, List.cons_append]
  have hu70 := Try.underlying70
  gi_wp2
  gi_loopw [3] (fun i wr => ∃ k : Nat, k ≤ zs.length ∧ i = .int .i64 ((zs.length : Int) - 1 - k) ∧ J (backTo zs k) wr ∧ Below n₀ W wr)
    (fun i _ => (intOf i + 1).toNat)
  case atStart => exact ⟨0, Nat.zero_le _, by simp, h0, Below.refl _ _⟩
  case round =>
    obtain ⟨k, hk, rfl, hJs, hnx⟩ := hrel
    have hb := (hnx.cell (p := ⟨Bs, 0, none⟩) hBn).trans hBs
    by_cases hlt : k < zs.length
    · have e1 : (zs.length : Int) - 1 - k = ((zs.length - 1 - k : Nat) : Int) := by omega
      obtain ⟨fn, tmps, assign, body, hy, hR⟩ := hY _ (((zs.length - 1 - k : Nat) : Int), rd_T70 zs ((zs.length - 1 - k : Nat) : Int)) wr hJs (by rw [backTo_length]; exact hlt)
      dsimp only at hy
      obtain ⟨ad, hA, hc0, hc1⟩ := at_T70 (hC wr hnx) ((zs.length - 1 - k : Nat) : Int) (by omega) (by omega)
      rw [Int.toNat_natCast] at hc0 hc1
      rw [e1]
      generalize hi : zs.length - 1 - k = i at *
      have hil : i < zs.length := by omega
      have p1 : ((i : Int) < (zs.length : Int)) = True := eq_true (by omega)
      have p2 : (0 ≤ (i : Int)) = True := eq_true (by omega)
      subst hA
      gi_wp2
      refine hR.mono ?_
      rintro e W3 (⟨rfl, hJ3, hk3⟩ | ⟨rfl, hJx3⟩)
      · gi_wp2
        go_roundw
        case rel => exact ⟨k + 1, by omega, by (try rw [show wrap64 ((i : Int) - 1) = (i : Int) - 1 by unfold wrap64; omega]); congr 1; omega, by rw [backTo_succ, hi]; exact hJ3, hnx.trans hk3⟩
        case measure => (try rw [show wrap64 ((i : Int) - 1) = (i : Int) - 1 by unfold wrap64; omega]); simp only [intOf]; omega
      · gi_wp2
        refine bodyPost_ret (results_none rfl _ _ _) rfl ?_
        exact ⟨⟨_, rfl⟩, .inr ⟨_, ⟨k + 1, by omega, by rw [backTo_succ, hi]⟩, hJx3⟩⟩
    · obtain rfl : k = zs.length := by omega
      rw [show (zs.length : Int) - 1 - zs.length = -1 by omega]
      gi_wp2
      go_end0
      exact ⟨⟨_, rfl⟩, .inl ⟨_, rfl, hJs⟩⟩
set_option maxHeartbeats 1000000 in
theorem impl_DiskRead.back (F : Fence) (n : Nat) (h46 : F.fn 46) (hro : F.round = none) (a : Option Addr) (len cap : Nat) (w : World) :
    CallsIn F n Try.prog 46 #[.slice a len cap] w fun e w' => e = .returned (.func (.func 71) #[] #[.pointer (some ⟨w.heap.size, 0, none⟩)]) ∧ w' = w.alloc (.cells #[.slice a len cap] 24) := by
  refine callsIn_of_wp Try.func46 rfl h46 ?_ hro
  simp only [Try.ntmps46, List.size_toArray, List.length_cons, List.length_nil, Nat.reduceAdd, Nat.reduceSub, Array.replicate_succ, Array.replicate_zero, List.push_toArray, List.append_toArray, List.nil_append, List.cons_append]
  gi_wp2
  go_ret
  exact ⟨rfl, rfl⟩
theorem impl_DiskRead.stops (F : Fence) (n : Nat) (h71 : F.fn 71) (hro : F.round = none) (hn : 1 ≤ n) (Bs n₀ : Nat) (A : Option Addr) (cap : Nat) (zs : List S70) (hlen : zs.length ≤ 1000000) (w : World) (hBs : Bs < n₀) (hn₀ : n₀ ≤ w.heap.size) (hc : w.cell? ⟨Bs, 0, none⟩ = some (.slice A zs.length cap)) (hC : ∀ W', Below n₀ w W' → Kd.C k70 W' A zs.length zs) :
    SeqStopsK F n Try.prog 71 #[.pointer (some ⟨Bs, 0, none⟩)] (fun x : Int × S70 => #[.int .i64 x.1, .agg #[.int .i64 x.2.f0, .string x.2.f1]]) (Below n₀) (fun ys => ys = backTo zs zs.length) (fun pre => ∃ k, k ≤ zs.length ∧ pre = backTo zs k) zs.length w := fun l J Jx W hW _ _ hY h0 =>
  impl_DiskRead.back1 F n h71 hro hn l Bs n₀ A cap zs hlen hBs J Jx hY W (((hW.mono hn₀).cell (p := ⟨Bs, 0, none⟩) hBs).trans hc) (fun W' hW' => hC W' ((hW.mono hn₀).trans hW')) h0
/-- What is read of a cell that is one: what waits last for it, or what it has. -/
def readD (cells : List ByteArray) (waits : List S70) (at_ : Int) : ByteArray :=
  match waits.reverse.find? (fun x => x.f0 == at_) with
  | some x => x.f1
  | none => rdOf ByteArray.empty cells at_
theorem cellAl {W : World} {p : Addr} {v : Value} (o : Obj) (h : W.cell? p = some v) : (W.alloc o).cell? p = some v := (((Below.refl W.heap.size W).alloc (Nat.le_refl _) o).cell (World.block_lt_of_cell? _ _ h)).trans h
theorem frozenAl {W : World} {p : Addr} {v : Value} (o : Obj) (h : W.cell? p = some v) (hf : W.frozen? p = false) : (W.alloc o).frozen? p = false := (((Below.refl W.heap.size W).alloc (Nat.le_refl _) o).frozen (World.block_lt_of_cell? _ _ h)).trans hf
theorem backTo_snd (zs : List S70) (k : Nat) (hk : k ≤ zs.length) : (backTo zs k).map (·.2) = zs.reverse.take k := by
  apply List.ext_getElem
  · simp [backTo]; omega
  · intro i h1 h2
    simp [backTo] at h1
    simp only [backTo, List.getElem_map, List.getElem_range, List.getElem_take, List.getElem_reverse, rd_T70, Int.toNat_natCast]
    rw [List.getD_eq_getElem?_getD, List.getElem?_eq_getElem (show zs.length - 1 - i < zs.length by omega)]
    rfl
theorem readD_none (cells : List ByteArray) {zs : List S70} {at_ : Int} (h : ∀ x ∈ backTo zs zs.length, x.2.f0 ≠ at_) : readD cells zs at_ = rdOf ByteArray.empty cells at_ := by
  have e := backTo_snd zs zs.length (Nat.le_refl _)
  rw [List.take_of_length_le (by simp)] at e
  have : zs.reverse.find? (fun x => x.f0 == at_) = none := by
    rw [List.find?_eq_none, ← e]
    intro x hx
    obtain ⟨y, hy, rfl⟩ := List.mem_map.1 hx
    simpa using h y hy
  unfold readD
  rw [this]
theorem readD_some (cells : List ByteArray) {zs : List S70} {at_ : Int} {k : Nat} (hk : k ≤ zs.length) {ini : List (Int × S70)} {last : Int × S70} (e : backTo zs k = ini ++ [last]) (h : ∀ x ∈ ini, x.2.f0 ≠ at_) (hl : last.2.f0 = at_) : readD cells zs at_ = last.2.f1 := by
  have e1 := backTo_snd zs k hk
  rw [e] at e1
  have : zs.reverse.find? (fun x => x.f0 == at_) = some last.2 := by
    rw [← List.take_append_drop k zs.reverse, ← e1, List.map_append, List.append_assoc, List.find?_append]
    have : (ini.map (·.2)).find? (fun x => x.f0 == at_) = none := by
      rw [List.find?_eq_none]
      intro x hx
      obtain ⟨y, hy, rfl⟩ := List.mem_map.1 hx
      simpa using h y hy
    rw [this]
    simp [hl]
  unfold readD
  rw [this]
set_option maxRecDepth 100000 in
set_option maxHeartbeats 2000000 in
theorem impl_DiskRead.good (A0 : Option Addr) (c0 : Nat) (l0 : List ByteArray) (A1 : Option Addr) (c1 : Nat) (l1 : List S70) (a2 a3 at_ : Int) (w : World) (hr0 : Kd.C Kd.string w A0 l0.length l0) (hc0 : l0.length ≤ c0) (hr1 : Kd.C k70 w A1 l1.length l1) (hc1 : l1.length ≤ c1) (hk : impl_DiskOk.ok l0 l1 a2 a3 = true) (hl0 : l0.length = 42) (hl1 : l1.length ≤ 100) (hat : 0 ≤ at_ ∧ at_ ≤ 41) :
    Calls Try.prog 21 #[.agg #[.slice A0 l0.length c0, .slice A1 l1.length c1, .int .i64 a2, .int .i64 a3], .int .i64 at_] w fun e w' => e = .returned (.string (readD l0 l1 at_)) ∧ Below w.heap.size w w' := by
  have hD : impl_DiskOk.f l0 l1 a2 a3 = some true := congrArg some hk
  have hI : impl_isCell.f at_ = some true := by simp [impl_isCell.f, impl_in.f, hat.1, hat.2]
  have HR0 := Aside0.mk hr0
  have HR1 := Aside0.mk hr1
  have HC0 := Aside0.mk hc0
  have HC1 := Aside0.mk hc1
  have HD := Aside0.mk hD
  have HI := Aside0.mk hI
  have HL0 := Aside0.mk hl0
  have HL1 := Aside0.mk hl1
  clear hr0 hr1 hc0 hc1 hD hI hk hl0 hl1
  have hu26 := Try.underlying26
  have hu70 := Try.underlying70
  obtain ⟨W3, hW3⟩ : ∃ W3, ((w.alloc (.cells #[.slice A0 l0.length c0, .slice A1 l1.length c1, .int .i64 a2, .int .i64 a3] 26)).alloc (.cells #[.int .i64 at_] 3)).alloc (.cells #[.string ⟨#[]⟩] 9) = W3 := ⟨_, rfl⟩
  have hs3 : W3.heap.size = w.heap.size + 3 := by rw [← hW3]; simp
  have hb0 : Below w.heap.size w W3 := by rw [← hW3]; exact (((Below.refl w.heap.size w).alloc (Nat.le_refl _) _).alloc (by simp) _).alloc (by simp; omega) _
  have k0 : W3.heap[w.heap.size]? = some (.cells #[.slice A0 l0.length c0, .slice A1 l1.length c1, .int .i64 a2, .int .i64 a3] 26) := by rw [← hW3]; exact qE (qE (blk_new _ _) _) _
  have k1 : W3.heap[w.heap.size + 1]? = some (.cells #[.int .i64 at_] 3) := by rw [← hW3]; exact qE (by have := blk_new (w.alloc (.cells #[.slice A0 l0.length c0, .slice A1 l1.length c1, .int .i64 a2, .int .i64 a3] 26)) (.cells #[.int .i64 at_] 3); rwa [World.size_alloc] at this) _
  have k2 : W3.heap[w.heap.size + 1 + 1]? = some (.cells #[.string ⟨#[]⟩] 9) := by rw [← hW3]; have := blk_new ((w.alloc (.cells #[.slice A0 l0.length c0, .slice A1 l1.length c1, .int .i64 a2, .int .i64 a3] 26)).alloc (.cells #[.int .i64 at_] 3)) (.cells #[.string ⟨#[]⟩] 9); rwa [World.size_alloc, World.size_alloc] at this
  have HK := Aside0.mk (fun w1 (h : Below W3.heap.size W3 w1) => And.intro (qL k0 h) (And.intro (qL k1 h) (qL k2 h)))
  have HB0 := Aside0.mk hb0
  have HW3 := Aside0.mk hW3
  have HS3 := Aside0.mk hs3
  have z00 : W3.cell? ⟨w.heap.size, 0, none⟩ = some (.slice A0 l0.length c0) := qA k0 0
  have z01 : W3.cell? ⟨w.heap.size, 1, none⟩ = some (.slice A1 l1.length c1) := qA k0 1
  have z02 : W3.cell? ⟨w.heap.size, 2, none⟩ = some (.int .i64 a2) := qA k0 2
  have z03 : W3.cell? ⟨w.heap.size, 3, none⟩ = some (.int .i64 a3) := qA k0 3
  clear k0 k1 k2 hb0 hW3 hs3
  refine (callsIn_wide (n := 3)).1 ?_
  refine callsIn_of_wp_marks Try.func21 rfl trivial ?_ rfl
  simp only [Try.ntmps21, List.size_toArray, List.length_cons, List.length_nil, Nat.reduceAdd, Nat.reduceSub, Array.replicate_succ, Array.replicate_zero, List.push_toArray, List.append_toArray, List.nil_append, List.cons_append]
  gi_wp2_with (first | (refine ⟨trivial, ?_⟩; gi_at_call 22; rw [HW3.out]; refine (callsIn_wide.2 (impl_DiskOk.calls A0 c0 l0 A1 c1 l1 a2 a3 true _ (Kd.zH HR0.out HB0.out) HC0.out (Kd.zH HR1.out HB0.out) HC1.out HD.out)).mono ?_; rintro e w1 ⟨rfl, hb1⟩; have HB1 := Aside0.mk hb1; have y0 := HK.out w1 hb1; clear hb1; have y00 := qA y0.1 0; have y01 := qA y0.1 1; have y02 := qA y0.1 2; have y03 := qA y0.1 3; have y10 := qA y0.2.1 0; have y20 := qA y0.2.2 0; have HY := Aside0.mk y0; clear y0) | (refine ⟨trivial, ?_⟩; gi_at_call 45; refine (callsIn_wide.2 (impl_isCell.calls _ _ _ HI.out)).mono ?_; rintro e w2 ⟨rfl, ⟨m, rfl⟩⟩) | (refine ⟨trivial, ?_⟩; gi_at_call 46; refine (impl_DiskRead.back Fence.wide _ trivial rfl _ _ _ _).mono ?_; rintro e w3 ⟨rfl, rfl⟩))
  have hy := HY.out
  have q0 := qE (qH hy.1 m) (.cells #[.slice A1 l1.length c1] 24)
  have q1 := qE (qH hy.2.1 m) (.cells #[.slice A1 l1.length c1] 24)
  have q2 := qE (qH hy.2.2 m) (.cells #[.slice A1 l1.length c1] 24)
  have q3 : ((w1.drewN m).alloc (.cells #[.slice A1 l1.length c1] 24)).heap[w1.heap.size]? = some (.cells #[.slice A1 l1.length c1] 24) := blk_new (w1.drewN m) _
  have hbW : Below w.heap.size w ((w1.drewN m).alloc (.cells #[.slice A1 l1.length c1] 24)) := qG (qD (HB0.out.trans (HB1.out.mono HB0.out.size)) m) _
  have hsz : w1.heap.size < ((w1.drewN m).alloc (.cells #[.slice A1 l1.length c1] 24)).heap.size := zE q3
  have hs1 : w.heap.size + 3 ≤ w1.heap.size := by have := HB1.out.size; have := HS3.out; omega
  obtain ⟨W0, hW0⟩ : ∃ W0, (w1.drewN m).alloc (.cells #[.slice A1 l1.length c1] 24) = W0 := ⟨_, rfl⟩
  rw [hW0] at q0 q1 q2 q3 hbW hsz ⊢
  clear hW0 y00 y01 y02 y03 y10 y20 z00 z01 z02 z03 hy
  refine wpIn_rangeFunc_ownH rfl (by decide) (gf := 71) (lb := #[.pointer (some ⟨w1.heap.size, 0, none⟩)]) rfl trivial (enters_of Try.func71 (by kernel_rfl) rfl)
    (impl_DiskRead.stops Fence.wide 2 trivial rfl (by decide) w1.heap.size W0.heap.size A1 c1 l1 (by have := HL1.out; omega) W0 hsz (Nat.le_refl _) (qA q3 0) (fun W' h => Kd.zH HR1.out (hbW.trans (h.mono hbW.size)))) belowK_t (belowK_b (Nat.le_refl _)) (Below.refl _ _) (fun _ => rfl)
    (fun pre W => ((∀ x ∈ pre, x.2.f0 ≠ at_) ∧ W.cell? ⟨w.heap.size, 0, none⟩ = some (.slice A0 l0.length c0) ∧ W.cell? ⟨w.heap.size + 1, 0, none⟩ = some (.int .i64 at_) ∧ W.cell? ⟨w.heap.size + 1 + 1, 0, none⟩ = some (.string ⟨#[]⟩) ∧ W.frozen? ⟨w.heap.size + 1 + 1, 0, none⟩ = false) ∧ Below W0.heap.size W0 W)
    (fun c pre W => (c = .ret ∧ ∃ ini last, pre = ini ++ [last] ∧ (∀ x ∈ ini, x.2.f0 ≠ at_) ∧ last.2.f0 = at_ ∧ W.cell? ⟨w.heap.size + 1 + 1, 0, none⟩ = some (.string last.2.f1)) ∧ Below w.heap.size w W)
    (OwnFrom.and (Own.from (fun s A B row hs hg hr => ⟨hs.1, cell_kept hs.2.1 hg hr, cell_kept hs.2.2.1 hg hr, cell_kept hs.2.2.2.1 hg hr, (frozen_kept hs.2.2.2.1 hg hr).trans hs.2.2.2.2⟩) _) (ownFrom_below (Nat.le_refl _) (Nat.le_refl _)))
    (fun c => OwnFrom.and (Own.from (fun s A B row hs hg hr => by obtain ⟨hc, ini, last, e1, e2, e3, e4⟩ := hs; exact ⟨hc, ini, last, e1, e2, e3, cell_kept e4 hg hr⟩) _) (ownFrom_below (Nat.le_refl _) hbW.size))
    ⟨⟨by simp, qA q0 0, qA q1 0, qA q2 0, qB q2 0⟩, Below.refl _ _⟩
    (fun x a' W => ∃ Bx, w.heap.size + 2 < Bx ∧ W.cell? ⟨Bx, 0, none⟩ = some (.int .i64 x.2.f0) ∧ W.cell? ⟨Bx, 1, none⟩ = some (.string x.2.f1) ∧ a' = { tmps := #[.agg #[.slice A0 l0.length c0, .slice A1 l1.length c1, .int .i64 a2, .int .i64 a3], .int .i64 at_, .pointer (some ⟨w.heap.size, 0, none⟩), .pointer (some ⟨w.heap.size + 1, 0, none⟩), .pointer (some ⟨w.heap.size + 1 + 1, 0, none⟩), undef, .pointer (some ⟨Bx, 0, none⟩), .agg #[.slice A0 l0.length c0, .slice A1 l1.length c1, .int .i64 a2, .int .i64 a3], .bool true, .bool false, .bool false, .int .i64 at_, .bool true, .bool false, .bool false, .pointer (some ⟨w.heap.size, 1, none⟩), .slice A1 l1.length c1, .func (.func 71) #[] #[.pointer (some ⟨w1.heap.size, 0, none⟩)], .int .i64 x.1, .agg #[.int .i64 x.2.f0, .string x.2.f1], undef, undef, undef, undef, undef, undef, undef, undef, undef, undef, undef], defers := [] })
    (fun x a' _ X Y row hs hg hr => by obtain ⟨Bx, h1, h2, h3, h4⟩ := hs; exact ⟨Bx, h1, cell_kept h2 hg (fun r e => (hr r e).2), cell_kept h3 hg (fun r e => (hr r e).2), h4⟩)
    ?assign ?body ?done ?stop
  case assign =>
    rintro l pre x W K ⟨⟨hp, z0, z1, z2, zf⟩, hB⟩ hK
    gi_wp2
    exact hK _ _ ((KeepsOthers.alloc _ _).from _) ((Below.refl _ W).alloc hB.size _) ⟨⟨hp, cellAl _ z0, cellAl _ z1, cellAl _ z2, frozenAl _ z2 zf⟩, hB.alloc hB.size _⟩ ⟨W.heap.size, by have := hB.size; omega, qA (blk_new W _) 0, qA (blk_new W _) 1, rfl⟩
  case body =>
    rintro l pre x a' W hl ⟨r, hr⟩ ⟨⟨hp, z0, z1, z2, zf⟩, hB⟩ ⟨Bx, hBx, x0, x1, rfl⟩ hlt
    have hbw := hbW.trans (hB.mono hbW.size)
    by_cases hx : x.2.f0 = at_
    · gi_wp2
      exact ⟨(KeepsOthers.setCell _ _ _).from _, ⟨rfl, pre, x, rfl, hp, hx, World.cell?_setCell_same' _ _ _ (by rw [z2]; rfl)⟩, hbw.setCell (p := ⟨w.heap.size + 1 + 1, 0, none⟩) (by simp; omega) _⟩
    · gi_wp2
      exact ⟨KeepsFrom.refl _ _, Below.refl _ _, ⟨fun y hy => (List.mem_append.1 hy).elim (hp y) (fun e => by simp at e; subst e; exact hx), z0, z1, z2, zf⟩, hB⟩
  case done =>
    rintro D ys W hD rfl ⟨⟨hne, z0, z1, z2, zf⟩, hB⟩ hK
    have hbw := hbW.trans (hB.mono hbW.size)
    obtain ⟨ad, hA, hc⟩ := Kd.at_string (Kd.zH HR0.out hbw) at_ hat.1 (by have := HL0.out; omega)
    subst hA
    have p0 := eq_true hat.1
    have p1 : (at_ < (l0.length : Int)) = True := eq_true (by have := HL0.out; omega)
    gi_wp2
    have hK' := (KeepsOthers.setCell W ⟨w.heap.size + 1 + 1, 0, none⟩ (.string (rdOf ByteArray.empty l0 at_))).same D _ hK rfl
    refine ⟨by simp, .inl ⟨_, _, rfl, run_takeDeferred hK', ?_⟩⟩
    have hc5 := cell_kept (World.cell?_setCell_same' W ⟨w.heap.size + 1 + 1, 0, none⟩ (.string (rdOf ByteArray.empty l0 at_)) (by rw [z2]; rfl)) (grownBy_putObj' _ D (.deferred none)) (fun r e => by cases e; exact ⟨_, hK', rfl⟩)
    refine ⟨.string (rdOf ByteArray.empty l0 at_), ?_, by rw [readD_none l0 hne], (hbw.setCell (p := ⟨w.heap.size + 1 + 1, 0, none⟩) (by simp; omega) _).trans (belowK_b (w := w) (Nat.le_refl _) _ D _ _ (by have := hbW.size; omega) hK' rfl rfl)⟩
    simp [results, Try.f21, go_sem, hc5]
  case stop =>
    rintro D c pre W hD ⟨k, hk, rfl⟩ ⟨⟨rfl, ini, last, e1, e2, e3, hcr⟩, hB⟩ hK
    gi_wp2
    refine ⟨by simp, .inl ⟨_, _, rfl, run_takeDeferred hK, ?_⟩⟩
    have hc5 := cell_kept hcr (grownBy_putObj' _ D (.deferred none)) (fun r e => by cases e; exact ⟨_, hK, rfl⟩)
    refine ⟨.string last.2.f1, ?_, by rw [readD_some l0 hk e1 e2 e3], hB.trans (belowK_b (w := w) (Nat.le_refl _) W D _ _ (by have := hbW.size; omega) hK rfl rfl)⟩
    simp [results, Try.f21, go_sem, hc5]
set_option maxRecDepth 100000 in
set_option maxHeartbeats 4000000 in
theorem impl_DiskRead.bad (A0 : Option Addr) (c0 : Nat) (l0 : List ByteArray) (A1 : Option Addr) (c1 : Nat) (l1 : List S70) (a2 a3 at_ : Int) (w : World) (hr0 : Kd.C Kd.string w A0 l0.length l0) (hc0 : l0.length ≤ c0) (hr1 : Kd.C k70 w A1 l1.length l1) (hc1 : l1.length ≤ c1) (b : Bool) (hk : impl_DiskOk.f l0 l1 a2 a3 = some b) (hb : (b && (decide (0 ≤ at_) && decide (at_ ≤ 41))) = false) :
    Calls Try.prog 21 #[.agg #[.slice A0 l0.length c0, .slice A1 l1.length c1, .int .i64 a2, .int .i64 a3], .int .i64 at_] w fun e w' => e = .returned (.string ⟨#[]⟩) ∧ Below w.heap.size w w' := by
  have HR0 := Aside0.mk hr0
  have HR1 := Aside0.mk hr1
  have HC0 := Aside0.mk hc0
  have HC1 := Aside0.mk hc1
  have HD := Aside0.mk hk
  have HI : Aside0 (impl_isCell.f at_ = some (decide (0 ≤ at_) && decide (at_ ≤ 41))) := ⟨by by_cases h1 : 0 ≤ at_ <;> by_cases h2 : at_ ≤ 41 <;> simp [impl_isCell.f, impl_in.f, h1, h2]⟩
  clear hr0 hr1 hc0 hc1 hk
  generalize (decide (0 ≤ at_) && decide (at_ ≤ 41)) = c at hb HI
  have hu26 := Try.underlying26
  obtain ⟨W3, hW3⟩ : ∃ W3, ((w.alloc (.cells #[.slice A0 l0.length c0, .slice A1 l1.length c1, .int .i64 a2, .int .i64 a3] 26)).alloc (.cells #[.int .i64 at_] 3)).alloc (.cells #[.string ⟨#[]⟩] 9) = W3 := ⟨_, rfl⟩
  have hb0 : Below w.heap.size w W3 := by rw [← hW3]; exact (((Below.refl w.heap.size w).alloc (Nat.le_refl _) _).alloc (by simp) _).alloc (by simp; omega) _
  have k0 : W3.heap[w.heap.size]? = some (.cells #[.slice A0 l0.length c0, .slice A1 l1.length c1, .int .i64 a2, .int .i64 a3] 26) := by rw [← hW3]; exact qE (qE (blk_new _ _) _) _
  have k1 : W3.heap[w.heap.size + 1]? = some (.cells #[.int .i64 at_] 3) := by rw [← hW3]; exact qE (by have := blk_new (w.alloc (.cells #[.slice A0 l0.length c0, .slice A1 l1.length c1, .int .i64 a2, .int .i64 a3] 26)) (.cells #[.int .i64 at_] 3); rwa [World.size_alloc] at this) _
  have k2 : W3.heap[w.heap.size + 1 + 1]? = some (.cells #[.string ⟨#[]⟩] 9) := by rw [← hW3]; have := blk_new ((w.alloc (.cells #[.slice A0 l0.length c0, .slice A1 l1.length c1, .int .i64 a2, .int .i64 a3] 26)).alloc (.cells #[.int .i64 at_] 3)) (.cells #[.string ⟨#[]⟩] 9); rwa [World.size_alloc, World.size_alloc] at this
  have HK := Aside0.mk (fun w1 (h : Below W3.heap.size W3 w1) => And.intro (qL k0 h) (And.intro (qL k1 h) (qL k2 h)))
  have HB0 := Aside0.mk hb0
  have HW3 := Aside0.mk hW3
  have z00 : W3.cell? ⟨w.heap.size, 0, none⟩ = some (.slice A0 l0.length c0) := qA k0 0
  have z01 : W3.cell? ⟨w.heap.size, 1, none⟩ = some (.slice A1 l1.length c1) := qA k0 1
  have z02 : W3.cell? ⟨w.heap.size, 2, none⟩ = some (.int .i64 a2) := qA k0 2
  have z03 : W3.cell? ⟨w.heap.size, 3, none⟩ = some (.int .i64 a3) := qA k0 3
  clear k0 k1 k2 hb0 hW3
  cases b with
  | false =>
    clear hb
    go_enter Try.func21, Try.ntmps21
    go_wp2_with (go_at_call 22; rw [HW3.out]; refine (impl_DiskOk.calls A0 c0 l0 A1 c1 l1 a2 a3 false _ (Kd.zH HR0.out HB0.out) HC0.out (Kd.zH HR1.out HB0.out) HC1.out HD.out).mono ?_; rintro e w1 ⟨rfl, hb1⟩; have HB1 := Aside0.mk hb1; have y0 := HK.out w1 hb1; clear hb1; have y00 := qA y0.1 0; have y01 := qA y0.1 1; have y02 := qA y0.1 2; have y03 := qA y0.1 3; have y10 := qA y0.2.1 0; have y20 := qA y0.2.2 0; have f20 := qB y0.2.2 0; have HY := Aside0.mk y0; clear y0)
    have hbw := HB0.out.trans (HB1.out.mono HB0.out.size)
    have hc5 := (qA (qN (cs := #[.string ⟨#[]⟩]) HY.out.2.2 0 (.string ⟨#[]⟩) rfl) 0).trans (show _ = some (Value.string ⟨#[]⟩) from rfl)
    refine bodyPost_ret (v := .string ⟨#[]⟩) (by simp [results, Try.f21, go_sem, hc5]) rfl ?_
    exact ⟨rfl, qC hbw (by omega)⟩
  | true =>
    obtain rfl : c = false := by simpa using hb
    clear hb
    go_enter Try.func21, Try.ntmps21
    go_wp2_with (first | (go_at_call 22; rw [HW3.out]; refine (impl_DiskOk.calls A0 c0 l0 A1 c1 l1 a2 a3 true _ (Kd.zH HR0.out HB0.out) HC0.out (Kd.zH HR1.out HB0.out) HC1.out HD.out).mono ?_; rintro e w1 ⟨rfl, hb1⟩; have HB1 := Aside0.mk hb1; have y0 := HK.out w1 hb1; clear hb1; have y00 := qA y0.1 0; have y01 := qA y0.1 1; have y02 := qA y0.1 2; have y03 := qA y0.1 3; have y10 := qA y0.2.1 0; have y20 := qA y0.2.2 0; have f20 := qB y0.2.2 0; have HY := Aside0.mk y0; clear y0) | (go_at_call 45; refine (impl_isCell.calls _ _ _ HI.out).mono ?_; rintro e w2 ⟨rfl, ⟨m, rfl⟩⟩))
    have hbw := HB0.out.trans (HB1.out.mono HB0.out.size)
    have hc5 := (qA (qN (cs := #[.string ⟨#[]⟩]) (qH HY.out.2.2 m) 0 (.string ⟨#[]⟩) rfl) 0).trans (show _ = some (Value.string ⟨#[]⟩) from rfl)
    refine bodyPost_ret (v := .string ⟨#[]⟩) (by simp [results, Try.f21, go_sem, hc5]) rfl ?_
    exact ⟨rfl, qC (qD hbw m) (by omega)⟩
def impl_DiskRead.f (l0_0 : List ByteArray) (l0_1 : List (S70)) (a0_2 : Int) (a0_3 : Int) (a1 : Int) : Option ByteArray := some (if (impl_DiskOk.ok l0_0 l0_1 a0_2 a0_3 && (decide (0 ≤ a1) && decide (a1 ≤ 41))) = true then readD l0_0 l0_1 a1 else ⟨#[]⟩)
theorem impl_DiskRead.calls (A0_0 : Option Addr) (c0_0 : Nat) (l0_0 : List ByteArray) (A0_1 : Option Addr) (c0_1 : Nat) (l0_1 : List (S70)) (a0_2 : Int) (a0_3 : Int) (a1 : Int) (r : ByteArray) (w : World) (hr0_0 : Kd.C Kd.string w A0_0 l0_0.length l0_0) (hc0_0 : l0_0.length ≤ c0_0) (hr0_1 : Kd.C k70 w A0_1 l0_1.length l0_1) (hc0_1 : l0_1.length ≤ c0_1) (h : impl_DiskRead.f l0_0 l0_1 a0_2 a0_3 a1 = some r) :
    Calls Try.prog 21 #[.agg #[.slice A0_0 l0_0.length c0_0, .slice A0_1 l0_1.length c0_1, .int .i64 a0_2, .int .i64 a0_3], .int .i64 a1] w fun e w' => e = .returned (.string r) ∧ Below w.heap.size w w' := by
  have h := Option.some.inj h
  by_cases hg : (impl_DiskOk.ok l0_0 l0_1 a0_2 a0_3 && (decide (0 ≤ a1) && decide (a1 ≤ 41))) = true
  · rw [if_pos hg] at h
    subst h
    simp only [Bool.and_eq_true, decide_eq_true_eq] at hg
    have hl : l0_0.length = 42 ∧ l0_1.length ≤ 100 := by
      have h := hg.1
      unfold impl_DiskOk.ok at h
      simp only [Bool.and_eq_true, decide_eq_true_eq] at h
      omega
    exact impl_DiskRead.good A0_0 c0_0 l0_0 A0_1 c0_1 l0_1 a0_2 a0_3 a1 w hr0_0 hc0_0 hr0_1 hc0_1 hg.1 hl.1 hl.2 hg.2
  · rw [if_neg hg] at h
    subst h
    exact impl_DiskRead.bad A0_0 c0_0 l0_0 A0_1 c0_1 l0_1 a0_2 a0_3 a1 w hr0_0 hc0_0 hr0_1 hc0_1 _ rfl (by simpa using hg)
end


end Go.Proofs.Ytepihebkdnmppaa.Aj
