/- Walks of the seat's functions, written by a program of this session (xprint.py) with the kit's printer: each call comes to just what its Lean function says. -/
import Derived.Test.YtepihebkdnmppaaxAkAk0
import Derived.Test.YtepihebkdnmppaaxAkAk2
namespace Go.Proofs.Ytepihebkdnmppaa.Ak
open Go.RowKit Go.Proofs.YtepihebkdnmppaaV.PrintWords Go.Proofs.YtepihebkdnmppaaV.PrintLast Go.Proofs.YtepihebkdnmppaaV.PrintMore
attribute [local go_sem] max2_int min2_int max_two min_two xD xE max_four min_four   -- for this text's walks alone
attribute [local go_sem high] World.zQ
set_option linter.unusedVariables false
set_option linter.unusedSimpArgs false

/-! ### spec_l7Ok: function 37 -/
mutual
def spec_l7Ok.j0 : Nat → Bool → List ByteArray → List (S70) → Int → Int → Option (Bool)
  | 0, _, _, _, _, _ => none
  | k + 1, x24, x112000, x112001, x112002, x112003 => if x24 = true then (some false) else (spec_l7Ok.l0 k 0 x112000 x112001 x112002 x112003)
def spec_l7Ok.l0 : Nat → Int → List ByteArray → List (S70) → Int → Int → Option (Bool)
  | 0, _, _, _, _, _ => none
  | k + 1, x3, x112000, x112001, x112002, x112003 => if x3 < (x112000.length : Int) then (if 0 ≤ x3 then (if ((rdOf ByteArray.empty x112000 x3).size : Int) > 1200 then (some false) else (spec_l7Ok.l0 k (wrap64 (x3 + 1)) x112000 x112001 x112002 x112003)) else (none)) else (spec_l7Ok.l1 k 0 x112000 x112001 x112002 x112003)
def spec_l7Ok.l1 : Nat → Int → List ByteArray → List (S70) → Int → Int → Option (Bool)
  | 0, _, _, _, _, _ => none
  | k + 1, x4, x112000, x112001, x112002, x112003 => if x4 < (x112001.length : Int) then (if 0 ≤ x4 then ((spec_l7Wait.f ((rd_T70 x112001 x4).f0) ((rd_T70 x112001 x4).f1)).bind fun t114 => (if t114 = true then (spec_l7Ok.l1 k (wrap64 (x4 + 1)) x112000 x112001 x112002 x112003) else (some false))) else (none)) else (some true)
end
def spec_l7Ok.f (k : Nat) (l0_0 : List ByteArray) (l0_1 : List (S70)) (a0_2 : Int) (a0_3 : Int) : Option (Bool) := if (l0_0.length : Int) = 42 then (if (l0_1.length : Int) > 100 then (spec_l7Ok.j0 k true l0_0 l0_1 a0_2 a0_3) else (if a0_2 < (-1) then (spec_l7Ok.j0 k true l0_0 l0_1 a0_2 a0_3) else (spec_l7Ok.j0 k (decide (a0_3 < (-1))) l0_0 l0_1 a0_2 a0_3))) else (spec_l7Ok.j0 k true l0_0 l0_1 a0_2 a0_3)
theorem spec_l7Ok.mono_l : ∀ k, (∀ y0 y1 y2 y3 y4, LeO (spec_l7Ok.j0 k y0 y1 y2 y3 y4) (spec_l7Ok.j0 (k + 1) y0 y1 y2 y3 y4)) ∧ (∀ y0 y1 y2 y3 y4, LeO (spec_l7Ok.l0 k y0 y1 y2 y3 y4) (spec_l7Ok.l0 (k + 1) y0 y1 y2 y3 y4)) ∧ (∀ y0 y1 y2 y3 y4, LeO (spec_l7Ok.l1 k y0 y1 y2 y3 y4) (spec_l7Ok.l1 (k + 1) y0 y1 y2 y3 y4))
  | 0 => ⟨fun _ _ _ _ _ r h => by simp [spec_l7Ok.j0] at h, fun _ _ _ _ _ r h => by simp [spec_l7Ok.l0] at h, fun _ _ _ _ _ r h => by simp [spec_l7Ok.l1] at h⟩
  | k + 1 => by
    obtain ⟨ih0, ih1, ih2⟩ := spec_l7Ok.mono_l k
    refine ⟨?_, ?_, ?_⟩
    · intro y0 y1 y2 y3 y4
      unfold spec_l7Ok.j0
      repeat' first
      | (with_reducible exact ih0 _ _ _ _ _)
      | (with_reducible exact ih1 _ _ _ _ _)
      | (with_reducible exact ih2 _ _ _ _ _)
      | (with_reducible exact LeO.refl _)
      | (with_reducible exact LeO.none _)
      | (with_reducible refine LeO.ite ?_ ?_)
      | (with_reducible refine LeO.bind ?_ (fun _ => ?_))
      | exact ih0 _ _ _ _ _
      | exact ih1 _ _ _ _ _
      | exact ih2 _ _ _ _ _
      | exact LeO.none _
      | refine LeO.ite ?_ ?_
      | refine LeO.bind ?_ (fun _ => ?_)
    · intro y0 y1 y2 y3 y4
      unfold spec_l7Ok.l0
      repeat' first
      | (with_reducible exact ih0 _ _ _ _ _)
      | (with_reducible exact ih1 _ _ _ _ _)
      | (with_reducible exact ih2 _ _ _ _ _)
      | (with_reducible exact LeO.refl _)
      | (with_reducible exact LeO.none _)
      | (with_reducible refine LeO.ite ?_ ?_)
      | (with_reducible refine LeO.bind ?_ (fun _ => ?_))
      | exact ih0 _ _ _ _ _
      | exact ih1 _ _ _ _ _
      | exact ih2 _ _ _ _ _
      | exact LeO.none _
      | refine LeO.ite ?_ ?_
      | refine LeO.bind ?_ (fun _ => ?_)
    · intro y0 y1 y2 y3 y4
      unfold spec_l7Ok.l1
      repeat' first
      | (with_reducible exact ih0 _ _ _ _ _)
      | (with_reducible exact ih1 _ _ _ _ _)
      | (with_reducible exact ih2 _ _ _ _ _)
      | (with_reducible exact LeO.refl _)
      | (with_reducible exact LeO.none _)
      | (with_reducible refine LeO.ite ?_ ?_)
      | (with_reducible refine LeO.bind ?_ (fun _ => ?_))
      | exact ih0 _ _ _ _ _
      | exact ih1 _ _ _ _ _
      | exact ih2 _ _ _ _ _
      | exact LeO.none _
      | refine LeO.ite ?_ ?_
      | refine LeO.bind ?_ (fun _ => ?_)
theorem spec_l7Ok.mono : ∀ a0 a1 a2 a3 k, LeO (spec_l7Ok.f k a0 a1 a2 a3) (spec_l7Ok.f (k + 1) a0 a1 a2 a3) := by
  intro a0 a1 a2 a3 k
  obtain ⟨ih0, ih1, ih2⟩ := spec_l7Ok.mono_l k
  unfold spec_l7Ok.f
  repeat' first
      | (with_reducible exact ih0 _ _ _ _ _)
      | (with_reducible exact ih1 _ _ _ _ _)
      | (with_reducible exact ih2 _ _ _ _ _)
      | (with_reducible exact LeO.refl _)
      | (with_reducible exact LeO.none _)
      | (with_reducible refine LeO.ite ?_ ?_)
      | (with_reducible refine LeO.bind ?_ (fun _ => ?_))
      | exact ih0 _ _ _ _ _
      | exact ih1 _ _ _ _ _
      | exact ih2 _ _ _ _ _
      | exact LeO.none _
      | refine LeO.ite ?_ ?_
      | refine LeO.bind ?_ (fun _ => ?_)
set_option maxHeartbeats 8000000 in
set_option maxRecDepth 100000 in
theorem spec_l7Ok.calls (k : Nat) (A0_0 : Option Addr) (c0_0 : Nat) (l0_0 : List ByteArray) (A0_1 : Option Addr) (c0_1 : Nat) (l0_1 : List (S70)) (a0_2 : Int) (a0_3 : Int) (r : Bool) (w : World) (hr0_0 : Kd.C Kd.string w A0_0 l0_0.length l0_0) (hc0_0 : l0_0.length ≤ c0_0) (hr0_1 : Kd.C k70 w A0_1 l0_1.length l0_1) (hc0_1 : l0_1.length ≤ c0_1) (h : spec_l7Ok.f k l0_0 l0_1 a0_2 a0_3 = some r) :
    Calls Try.prog 37 #[.agg #[.slice A0_0 l0_0.length c0_0, .slice A0_1 l0_1.length c0_1, .int .i64 a0_2, .int .i64 a0_3]] w fun e w' => e = .returned (.bool r) ∧ Below w.heap.size w w' := by
  have hu26 := Try.underlying26
  have hu70 := Try.underlying70
  have HR0_0 := Aside0.mk hr0_0
  have HC0_0 := Aside0.mk hc0_0
  clear hr0_0 hc0_0
  have HR0_1 := Aside0.mk hr0_1
  have HC0_1 := Aside0.mk hc0_1
  clear hr0_1 hc0_1
  have HB := Aside0.mk (Below.refl w.heap.size w)
  have H : (if (l0_0.length : Int) = 42 then (if (l0_1.length : Int) > 100 then (spec_l7Ok.j0 k true l0_0 l0_1 a0_2 a0_3) else (if a0_2 < (-1) then (spec_l7Ok.j0 k true l0_0 l0_1 a0_2 a0_3) else (spec_l7Ok.j0 k (decide (a0_3 < (-1))) l0_0 l0_1 a0_2 a0_3))) else (spec_l7Ok.j0 k true l0_0 l0_1 a0_2 a0_3)) = some r := h
  clear h
  have HC2 := Aside0.mk H
  clear H
  go_enter Try.func37, Try.ntmps37
  go_upto_region 1 with (first | ((with_reducible refine zB (N := 1) rfl ?_); refine qZ ?hg (N := 1) ?hd (cs := #[.slice A0_0 l0_0.length c0_0, .slice A0_1 l0_1.length c0_1, .int .i64 a0_2, .int .i64 a0_3]) (t := 26) ?hr ?_; (case hd => rfl); (case hg => rfl); (case hr => first | (go_simp; done) | (go_simp; rfl)); intro gb111 hg w3 hbox hb; have n0_ := Aside0.mk (qN (by repeat (first | (with_reducible first | exact HB.out | apply qF | apply qC | apply qE) | exact HB.out)) hb); have n1_ := Aside0.mk (hbox); have n2_ := Aside0.mk ((by rw [hg]; exact (qM (by repeat (first | (with_reducible first | exact HB.out | apply qF | apply qC | apply qE) | exact HB.out))) : w.heap.size ≤ gb111)); have n3_ := Aside0.mk ((by rw [hg]; exact (qM (by repeat (first | (with_reducible first | exact HB.out | apply qF | apply qC | apply qE) | exact HB.out))) : w.heap.size ≤ gb111)); clear HB; have HB := n0_; have BK111 := n1_; have GW111 := n2_; have GE111 := n3_; clear n0_ n1_ n2_ n3_; clear hb hbox hg))
  (try simp only [Act.put, List.setIfInBounds_toArray, List.set_cons_zero, List.set_cons_succ])
  go_cut [24] (fun v24 wc => ∃ (kq : Nat) (x24_1 : Bool), v24 = .bool x24_1 ∧ Aside0 (spec_l7Ok.j0 kq x24_1 l0_0 l0_1 a0_2 a0_3 = some r) ∧ Aside0 (kq ≤ k) ∧ Aside0 (wc.heap[gb111]? = some (.cells #[(.slice A0_0 l0_0.length c0_0), (.slice A0_1 l0_1.length c0_1), .int .i64 a0_2, .int .i64 a0_3] 26 (0, 0))) ∧ Aside0 (Below w.heap.size w wc))
  case first =>
    have H := HC2.out
    clear HC2
    by_cases c4 : (l0_0.length : Int) = 42
    · rw [if_pos c4] at H
      have c4b0 : ((l0_0.length : Int) == 42) = true := beq_iff_eq.mpr c4
      have c4b1 : ((l0_0.length : Int) != 42) = false := bne_eq_false_iff_eq.mpr c4
      clear c4
      (first | rw [c4b0] | (simp only [i64_w, i32_w]; rw [c4b0]) | skip)
      by_cases c5 : (l0_1.length : Int) > 100
      · rw [if_pos c5] at H
        have c5b0 : decide (100 < (l0_1.length : Int)) = true := decide_eq_true c5
        have c5b1 : decide (100 < l0_1.length) = true := decide_eq_true (by omega)
        clear c5
        have H' := Aside0.mk H
        clear H
        have hcz6_0 : w3.cell? ⟨gb111, 0, none⟩ = some (.slice A0_0 l0_0.length c0_0) := (qA BK111.out 0).trans rfl
        have hcz6_1 : w3.cell? ⟨gb111, 1, none⟩ = some (.slice A0_1 l0_1.length c0_1) := (qA BK111.out 1).trans rfl
        have hcz6_2 : w3.cell? ⟨gb111, 2, none⟩ = some (.int .i64 a0_2) := (qA BK111.out 2).trans rfl
        have hcz6_3 : w3.cell? ⟨gb111, 3, none⟩ = some (.int .i64 a0_3) := (qA BK111.out 3).trans rfl
        have hfz6_0 := qD BK111.out 0
        have hfz6_1 := qD BK111.out 1
        have hfz6_2 := qD BK111.out 2
        have hfz6_3 := qD BK111.out 3
        go_wp2
        go_meet
        case rel => exact ⟨_, (true), (by first | rfl | (simp; done) | (simp [*]; done)), H', ⟨by first | omega | exact Nat.le_refl _⟩, ⟨by (with_reducible repeat (first | refine qH ?_ _ | refine qI ?_ | refine qG ?_ _)); exact BK111.out⟩, ⟨by repeat (first | (with_reducible first | exact HB.out | apply qF | apply qC | apply qE | refine qB ?_ GE111.out) | exact HB.out)⟩⟩
      · rw [if_neg c5] at H
        have c5b0 : decide (100 < (l0_1.length : Int)) = false := decide_eq_false c5
        have c5b1 : decide (100 < l0_1.length) = false := decide_eq_false (by omega)
        clear c5
        by_cases c7 : a0_2 < (-1)
        · rw [if_pos c7] at H
          have c7b0 : decide (a0_2 < (-1)) = true := decide_eq_true c7
          clear c7
          have H' := Aside0.mk H
          clear H
          have hcz8_0 : w3.cell? ⟨gb111, 0, none⟩ = some (.slice A0_0 l0_0.length c0_0) := (qA BK111.out 0).trans rfl
          have hcz8_1 : w3.cell? ⟨gb111, 1, none⟩ = some (.slice A0_1 l0_1.length c0_1) := (qA BK111.out 1).trans rfl
          have hcz8_2 : w3.cell? ⟨gb111, 2, none⟩ = some (.int .i64 a0_2) := (qA BK111.out 2).trans rfl
          have hcz8_3 : w3.cell? ⟨gb111, 3, none⟩ = some (.int .i64 a0_3) := (qA BK111.out 3).trans rfl
          have hfz8_0 := qD BK111.out 0
          have hfz8_1 := qD BK111.out 1
          have hfz8_2 := qD BK111.out 2
          have hfz8_3 := qD BK111.out 3
          go_wp2
          go_meet
          case rel => exact ⟨_, (true), (by first | rfl | (simp; done) | (simp [*]; done)), H', ⟨by first | omega | exact Nat.le_refl _⟩, ⟨by (with_reducible repeat (first | refine qH ?_ _ | refine qI ?_ | refine qG ?_ _)); exact BK111.out⟩, ⟨by repeat (first | (with_reducible first | exact HB.out | apply qF | apply qC | apply qE | refine qB ?_ GE111.out) | exact HB.out)⟩⟩
        · rw [if_neg c7] at H
          have c7b0 : decide (a0_2 < (-1)) = false := decide_eq_false c7
          clear c7
          have H' := Aside0.mk H
          clear H
          have hcz9_0 : w3.cell? ⟨gb111, 0, none⟩ = some (.slice A0_0 l0_0.length c0_0) := (qA BK111.out 0).trans rfl
          have hcz9_1 : w3.cell? ⟨gb111, 1, none⟩ = some (.slice A0_1 l0_1.length c0_1) := (qA BK111.out 1).trans rfl
          have hcz9_2 : w3.cell? ⟨gb111, 2, none⟩ = some (.int .i64 a0_2) := (qA BK111.out 2).trans rfl
          have hcz9_3 : w3.cell? ⟨gb111, 3, none⟩ = some (.int .i64 a0_3) := (qA BK111.out 3).trans rfl
          have hfz9_0 := qD BK111.out 0
          have hfz9_1 := qD BK111.out 1
          have hfz9_2 := qD BK111.out 2
          have hfz9_3 := qD BK111.out 3
          go_wp2
          go_meet
          case rel => exact ⟨_, (decide (a0_3 < (-1))), (by first | rfl | (simp; done) | (simp [*]; done)), H', ⟨by first | omega | exact Nat.le_refl _⟩, ⟨by (with_reducible repeat (first | refine qH ?_ _ | refine qI ?_ | refine qG ?_ _)); exact BK111.out⟩, ⟨by repeat (first | (with_reducible first | exact HB.out | apply qF | apply qC | apply qE | refine qB ?_ GE111.out) | exact HB.out)⟩⟩
    · rw [if_neg c4] at H
      have c4b0 : ((l0_0.length : Int) == 42) = false := beq_eq_false_iff_ne.mpr c4
      have c4b1 : ((l0_0.length : Int) != 42) = true := bne_iff_ne.mpr c4
      (first | rw [c4b0] | (simp only [i64_w, i32_w]; rw [c4b0]) | skip)
      have H' := Aside0.mk H
      clear H
      have hcz10_0 : w3.cell? ⟨gb111, 0, none⟩ = some (.slice A0_0 l0_0.length c0_0) := (qA BK111.out 0).trans rfl
      have hcz10_1 : w3.cell? ⟨gb111, 1, none⟩ = some (.slice A0_1 l0_1.length c0_1) := (qA BK111.out 1).trans rfl
      have hcz10_2 : w3.cell? ⟨gb111, 2, none⟩ = some (.int .i64 a0_2) := (qA BK111.out 2).trans rfl
      have hcz10_3 : w3.cell? ⟨gb111, 3, none⟩ = some (.int .i64 a0_3) := (qA BK111.out 3).trans rfl
      have hfz10_0 := qD BK111.out 0
      have hfz10_1 := qD BK111.out 1
      have hfz10_2 := qD BK111.out 2
      have hfz10_3 := qD BK111.out 3
      go_wp2
      go_meet
      case rel => exact ⟨_, (true), (by first | rfl | (simp; done) | (simp [*]; done)), H', ⟨by first | omega | exact Nat.le_refl _⟩, ⟨by (with_reducible repeat (first | refine qH ?_ _ | refine qI ?_ | refine qG ?_ _)); exact BK111.out⟩, ⟨by repeat (first | (with_reducible first | exact HB.out | apply qF | apply qC | apply qE | refine qB ?_ GE111.out) | exact HB.out)⟩⟩
  case rest =>
    clear HC2
    try clear p2
    try clear c3
    try clear c4
    try clear c4b0
    try clear c4b1
    try clear c5
    try clear c5b0
    try clear c5b1
    try clear c7
    try clear c7b0
    try clear hcz10_0
    try clear hcz10_1
    try clear hcz10_2
    try clear hcz10_3
    try clear hcz6_0
    try clear hcz6_1
    try clear hcz6_2
    try clear hcz6_3
    try clear hcz8_0
    try clear hcz8_1
    try clear hcz8_2
    try clear hcz8_3
    try clear hcz9_0
    try clear hcz9_1
    try clear hcz9_2
    try clear hcz9_3
    try clear hfz10_0
    try clear hfz10_1
    try clear hfz10_2
    try clear hfz10_3
    try clear hfz6_0
    try clear hfz6_1
    try clear hfz6_2
    try clear hfz6_3
    try clear hfz8_0
    try clear hfz8_1
    try clear hfz8_2
    try clear hfz8_3
    try clear hfz9_0
    try clear hfz9_1
    try clear hfz9_2
    try clear hfz9_3
    obtain ⟨kq, x24_1, rfl, HA, HJ1, BK111, HB⟩ := hcut
    cases kq with
    | zero => exact absurd HA.out (by simp [spec_l7Ok.j0])
    | succ kj1 =>
      have H := HA.out
      clear HA
      simp only [spec_l7Ok.j0] at H
      by_cases c11 : x24_1 = true
      · subst c11
        have H1 : (some false) = some r := by first | rfl | (rw [if_pos rfl] at H; exact H)
        clear H
        have H := H1
        clear H1
        obtain rfl := Option.some.inj H
        go_wp2
        go_ret
        exact ⟨by first | rfl | (simp [errW_none, errW_some] <;> rfl) | (simp [*, errW_none, errW_some] <;> rfl), by repeat (first | (with_reducible first | exact HB.out | apply qF | apply qC | apply qE | refine qB ?_ GE111.out) | exact HB.out)⟩
      · replace c11 := Bool.eq_false_iff.mpr c11
        subst c11
        have H1 : (spec_l7Ok.l0 kj1 0 l0_0 l0_1 a0_2 a0_3) = some r := by first | rfl | (rw [if_neg (show ¬ (false = true) by decide)] at H; exact H)
        clear H
        have H := H1
        clear H1
        have H' := Aside0.mk H
        clear H
        go_wp2
        go_loopg [3] kj1 (fun kq v3 w' => ∃ (x3_2 : Int), v3 = .int .i64 x3_2 ∧ Aside0 (spec_l7Ok.l0 kq x3_2 l0_0 l0_1 a0_2 a0_3 = some r) ∧ Aside0 (kq ≤ kj1) ∧ Aside0 (w'.heap[gb111]? = some (.cells #[(.slice A0_0 l0_0.length c0_0), (.slice A0_1 l0_1.length c0_1), .int .i64 a0_2, .int .i64 a0_3] 26 (0, 0))) ∧ Aside0 (Below w.heap.size w w'))
        case atStart => exact ⟨(0), (by first | rfl | (simp; done) | (simp [*]; done)), H', ⟨Nat.le_refl _⟩, ⟨by (with_reducible repeat (first | refine qH ?_ _ | refine qI ?_ | refine qG ?_ _)); exact BK111.out⟩, ⟨by repeat (first | (with_reducible first | exact HB.out | apply qF | apply qC | apply qE | refine qB ?_ GE111.out) | exact HB.out)⟩⟩
        case round =>
          clear H'
          try clear c1
          try clear p2
          try clear c3
          try clear c4
          try clear c4b0
          try clear c4b1
          try clear c5
          try clear c5b0
          try clear c5b1
          try clear c7
          try clear c7b0
          try clear c11
          try clear hcz10_0
          try clear hcz10_1
          try clear hcz10_2
          try clear hcz10_3
          try clear hcz6_0
          try clear hcz6_1
          try clear hcz6_2
          try clear hcz6_3
          try clear hcz8_0
          try clear hcz8_1
          try clear hcz8_2
          try clear hcz8_3
          try clear hcz9_0
          try clear hcz9_1
          try clear hcz9_2
          try clear hcz9_3
          try clear hfz10_0
          try clear hfz10_1
          try clear hfz10_2
          try clear hfz10_3
          try clear hfz6_0
          try clear hfz6_1
          try clear hfz6_2
          try clear hfz6_3
          try clear hfz8_0
          try clear hfz8_1
          try clear hfz8_2
          try clear hfz8_3
          try clear hfz9_0
          try clear hfz9_1
          try clear hfz9_2
          try clear hfz9_3
          try clear p2
          obtain ⟨x3_2, rfl, HA, HK2, BK111, HB⟩ := hrel
          cases gk with
          | zero => exact absurd HA.out (by simp [spec_l7Ok.l0])
          | succ k2 =>
            have H := HA.out
            clear HA
            simp only [spec_l7Ok.l0] at H
            by_cases c12 : x3_2 < (l0_0.length : Int)
            · rw [if_pos c12] at H
              have c12b0 : decide (x3_2 < (l0_0.length : Int)) = true := decide_eq_true c12
              clear c12
              by_cases c13 : 0 ≤ x3_2
              · rw [if_pos c13] at H
                have c13b0 : decide (0 ≤ x3_2) = true := decide_eq_true c13
                clear c13
                by_cases c14 : ((rdOf ByteArray.empty l0_0 x3_2).size : Int) > 1200
                · rw [if_pos c14] at H
                  have c14b0 : decide (1200 < ((rdOf ByteArray.empty l0_0 x3_2).size : Int)) = true := decide_eq_true c14
                  have c14b1 : decide (1200 < (rdOf ByteArray.empty l0_0 x3_2).size) = true := decide_eq_true (by omega)
                  clear c14
                  obtain rfl := Option.some.inj H
                  have hcz15_0 : wr.cell? ⟨gb111, 0, none⟩ = some (.slice A0_0 l0_0.length c0_0) := (qA BK111.out 0).trans rfl
                  have hcz15_1 : wr.cell? ⟨gb111, 1, none⟩ = some (.slice A0_1 l0_1.length c0_1) := (qA BK111.out 1).trans rfl
                  have hcz15_2 : wr.cell? ⟨gb111, 2, none⟩ = some (.int .i64 a0_2) := (qA BK111.out 2).trans rfl
                  have hcz15_3 : wr.cell? ⟨gb111, 3, none⟩ = some (.int .i64 a0_3) := (qA BK111.out 3).trans rfl
                  have hfz15_0 := qD BK111.out 0
                  have hfz15_1 := qD BK111.out 1
                  have hfz15_2 := qD BK111.out 2
                  have hfz15_3 := qD BK111.out 3
                  have p112 : 0 ≤ (x3_2 : Int) := of_decide_eq_true (by first | (with_reducible assumption) | assumption)
                  have q112 : x3_2 < (l0_0.length : Int) := of_decide_eq_true (by first | (with_reducible assumption) | assumption)
                  obtain ⟨ad112, e112, hx112_0⟩ := Kd.xF HR0_0.out x3_2 p112 q112
                  cases e112
                  replace hx112_0 := (HB.out.cell (World.block_lt_of_cell? w _ hx112_0)).trans hx112_0
                  replace p112 := eq_true p112
                  replace q112 := eq_true q112
                  go_wp2
                  go_ret
                  exact ⟨by first | rfl | (simp [errW_none, errW_some] <;> rfl) | (simp [*, errW_none, errW_some] <;> rfl), by repeat (first | (with_reducible first | exact HB.out | apply qF | apply qC | apply qE | refine qB ?_ GE111.out) | exact HB.out)⟩
                · rw [if_neg c14] at H
                  have c14b0 : decide (1200 < ((rdOf ByteArray.empty l0_0 x3_2).size : Int)) = false := decide_eq_false c14
                  have c14b1 : decide (1200 < (rdOf ByteArray.empty l0_0 x3_2).size) = false := decide_eq_false (by omega)
                  clear c14
                  have H' := Aside0.mk H
                  clear H
                  have hcz16_0 : wr.cell? ⟨gb111, 0, none⟩ = some (.slice A0_0 l0_0.length c0_0) := (qA BK111.out 0).trans rfl
                  have hcz16_1 : wr.cell? ⟨gb111, 1, none⟩ = some (.slice A0_1 l0_1.length c0_1) := (qA BK111.out 1).trans rfl
                  have hcz16_2 : wr.cell? ⟨gb111, 2, none⟩ = some (.int .i64 a0_2) := (qA BK111.out 2).trans rfl
                  have hcz16_3 : wr.cell? ⟨gb111, 3, none⟩ = some (.int .i64 a0_3) := (qA BK111.out 3).trans rfl
                  have hfz16_0 := qD BK111.out 0
                  have hfz16_1 := qD BK111.out 1
                  have hfz16_2 := qD BK111.out 2
                  have hfz16_3 := qD BK111.out 3
                  have p112 : 0 ≤ (x3_2 : Int) := of_decide_eq_true (by first | (with_reducible assumption) | assumption)
                  have q112 : x3_2 < (l0_0.length : Int) := of_decide_eq_true (by first | (with_reducible assumption) | assumption)
                  obtain ⟨ad112, e112, hx112_0⟩ := Kd.xF HR0_0.out x3_2 p112 q112
                  cases e112
                  replace hx112_0 := (HB.out.cell (World.block_lt_of_cell? w _ hx112_0)).trans hx112_0
                  replace p112 := eq_true p112
                  replace q112 := eq_true q112
                  go_wp2
                  go_roundg k2
                  case measure => have := HJ1.out; have := HK2.out; omega
                  case rel => exact ⟨(wrap64 (x3_2 + 1)), (by first | rfl | (simp; done) | (simp [*]; done)), H', ⟨by have := HJ1.out; have := HK2.out; omega⟩, ⟨by (with_reducible repeat (first | refine qH ?_ _ | refine qI ?_ | refine qG ?_ _)); exact BK111.out⟩, ⟨by repeat (first | (with_reducible first | exact HB.out | apply qF | apply qC | apply qE | refine qB ?_ GE111.out) | exact HB.out)⟩⟩
              · rw [if_neg c13] at H
                exact absurd H (by simp)
            · rw [if_neg c12] at H
              have c12b0 : decide (x3_2 < (l0_0.length : Int)) = false := decide_eq_false c12
              clear c12
              have H' := Aside0.mk H
              clear H
              have hcz17_0 : wr.cell? ⟨gb111, 0, none⟩ = some (.slice A0_0 l0_0.length c0_0) := (qA BK111.out 0).trans rfl
              have hcz17_1 : wr.cell? ⟨gb111, 1, none⟩ = some (.slice A0_1 l0_1.length c0_1) := (qA BK111.out 1).trans rfl
              have hcz17_2 : wr.cell? ⟨gb111, 2, none⟩ = some (.int .i64 a0_2) := (qA BK111.out 2).trans rfl
              have hcz17_3 : wr.cell? ⟨gb111, 3, none⟩ = some (.int .i64 a0_3) := (qA BK111.out 3).trans rfl
              have hfz17_0 := qD BK111.out 0
              have hfz17_1 := qD BK111.out 1
              have hfz17_2 := qD BK111.out 2
              have hfz17_3 := qD BK111.out 3
              go_wp2
              go_loopg [4] k2 (fun kq v4 w' => ∃ (x4_3 : Int), v4 = .int .i64 x4_3 ∧ Aside0 (spec_l7Ok.l1 kq x4_3 l0_0 l0_1 a0_2 a0_3 = some r) ∧ Aside0 (kq ≤ k2) ∧ Aside0 (w'.heap[gb111]? = some (.cells #[(.slice A0_0 l0_0.length c0_0), (.slice A0_1 l0_1.length c0_1), .int .i64 a0_2, .int .i64 a0_3] 26 (0, 0))) ∧ Aside0 (Below w.heap.size w w'))
              case atStart => exact ⟨(0), (by first | rfl | (simp; done) | (simp [*]; done)), H', ⟨Nat.le_refl _⟩, ⟨by (with_reducible repeat (first | refine qH ?_ _ | refine qI ?_ | refine qG ?_ _)); exact BK111.out⟩, ⟨by repeat (first | (with_reducible first | exact HB.out | apply qF | apply qC | apply qE | refine qB ?_ GE111.out) | exact HB.out)⟩⟩
              case round =>
                clear H'
                try clear c1
                try clear p1
                try clear q1
                try clear hx1
                try clear p2
                try clear c3
                try clear c4
                try clear c4b0
                try clear c4b1
                try clear c5
                try clear c5b0
                try clear c5b1
                try clear p6
                try clear c7
                try clear c7b0
                try clear c11
                try clear p11
                try clear q11
                try clear hx11
                try clear c12
                try clear c12b0
                try clear c13
                try clear c13b0
                try clear c14
                try clear c14b0
                try clear c14b1
                try clear hcz10_0
                try clear hcz10_1
                try clear hcz10_2
                try clear hcz10_3
                try clear hcz15_0
                try clear hcz15_1
                try clear hcz15_2
                try clear hcz15_3
                try clear hcz16_0
                try clear hcz16_1
                try clear hcz16_2
                try clear hcz16_3
                try clear hcz17_0
                try clear hcz17_1
                try clear hcz17_2
                try clear hcz17_3
                try clear hcz6_0
                try clear hcz6_1
                try clear hcz6_2
                try clear hcz6_3
                try clear hcz8_0
                try clear hcz8_1
                try clear hcz8_2
                try clear hcz8_3
                try clear hcz9_0
                try clear hcz9_1
                try clear hcz9_2
                try clear hcz9_3
                try clear hfz10_0
                try clear hfz10_1
                try clear hfz10_2
                try clear hfz10_3
                try clear hfz15_0
                try clear hfz15_1
                try clear hfz15_2
                try clear hfz15_3
                try clear hfz16_0
                try clear hfz16_1
                try clear hfz16_2
                try clear hfz16_3
                try clear hfz17_0
                try clear hfz17_1
                try clear hfz17_2
                try clear hfz17_3
                try clear hfz6_0
                try clear hfz6_1
                try clear hfz6_2
                try clear hfz6_3
                try clear hfz8_0
                try clear hfz8_1
                try clear hfz8_2
                try clear hfz8_3
                try clear hfz9_0
                try clear hfz9_1
                try clear hfz9_2
                try clear hfz9_3
                try clear hx112_0
                try clear p112
                try clear p2
                try clear q112
                obtain ⟨x4_3, rfl, HA, HK3, BK111, HB⟩ := hrel
                cases gk with
                | zero => exact absurd HA.out (by simp [spec_l7Ok.l1])
                | succ k3 =>
                  have H := HA.out
                  clear HA
                  simp only [spec_l7Ok.l1] at H
                  by_cases c18 : x4_3 < (l0_1.length : Int)
                  · rw [if_pos c18] at H
                    have c18b0 : decide (x4_3 < (l0_1.length : Int)) = true := decide_eq_true c18
                    clear c18
                    by_cases c19 : 0 ≤ x4_3
                    · rw [if_pos c19] at H
                      have c19b0 : decide (0 ≤ x4_3) = true := decide_eq_true c19
                      clear c19
                      replace H := Option.bind_eq_some_iff.mp H
                      obtain ⟨t114, A200, H⟩ := H
                      replace H : (if t114 = true then (spec_l7Ok.l1 k3 (wrap64 (x4_3 + 1)) l0_0 l0_1 a0_2 a0_3) else (some false)) = some r := H
                      have A20 := Aside0.mk A200
                      clear A200
                      by_cases c21 : t114 = true
                      · subst c21
                        have H1 : (spec_l7Ok.l1 k3 (wrap64 (x4_3 + 1)) l0_0 l0_1 a0_2 a0_3) = some r := by first | rfl | (rw [if_pos rfl] at H; exact H)
                        clear H
                        have H := H1
                        clear H1
                        have H' := Aside0.mk H
                        clear H
                        have hcz22_0 : wr.cell? ⟨gb111, 0, none⟩ = some (.slice A0_0 l0_0.length c0_0) := (qA BK111.out 0).trans rfl
                        have hcz22_1 : wr.cell? ⟨gb111, 1, none⟩ = some (.slice A0_1 l0_1.length c0_1) := (qA BK111.out 1).trans rfl
                        have hcz22_2 : wr.cell? ⟨gb111, 2, none⟩ = some (.int .i64 a0_2) := (qA BK111.out 2).trans rfl
                        have hcz22_3 : wr.cell? ⟨gb111, 3, none⟩ = some (.int .i64 a0_3) := (qA BK111.out 3).trans rfl
                        have hfz22_0 := qD BK111.out 0
                        have hfz22_1 := qD BK111.out 1
                        have hfz22_2 := qD BK111.out 2
                        have hfz22_3 := qD BK111.out 3
                        have p113 : 0 ≤ (x4_3 : Int) := of_decide_eq_true (by first | (with_reducible assumption) | assumption)
                        have q113 : x4_3 < (l0_1.length : Int) := of_decide_eq_true (by first | (with_reducible assumption) | assumption)
                        obtain ⟨ad113, e113, hx113_0, hx113_1⟩ := at_T70 HR0_1.out x4_3 p113 q113
                        cases e113
                        replace hx113_0 := (HB.out.cell (World.block_lt_of_cell? w _ hx113_0)).trans hx113_0
                        replace hx113_1 := (HB.out.cell (World.block_lt_of_cell? w _ hx113_1)).trans hx113_1
                        replace p113 := eq_true p113
                        replace q113 := eq_true q113
                        go_wp2_with (first | ((with_reducible refine qT (f := 67) rfl ?_); refine zL (some 51) rfl rfl Try.func67 (by kernel_rfl) rfl #[.agg #[.int .i64 ((rd_T70 l0_1 x4_3).f0), .string ((rd_T70 l0_1 x4_3).f1)]] rfl (by (try simp only [List.map_toArray, List.map_cons, List.map_nil]); first | done | rfl | (simp only [List.length_drop, List.length_take]; rfl)) ?_; (with_reducible refine (spec_l7Wait.calls ((rd_T70 l0_1 x4_3).f0) ((rd_T70 l0_1 x4_3).f1) true _ A20.out).mono ?_); rintro e w23 ⟨rfl, hb⟩; refine ⟨_, rfl, ?_⟩; have n0_ := Aside0.mk (qJ (g := gb111) (o := .cells #[.slice A0_0 l0_0.length c0_0, .slice (some ad113) l0_1.length c0_1, .int .i64 a0_2, .int .i64 a0_3] 26 (0, 0)) (bw_ BK111.out) hb); have n1_ := Aside0.mk (qN (by repeat (first | (with_reducible first | exact HB.out | apply qF | apply qC | apply qE | refine qB ?_ GE111.out) | exact HB.out)) hb); clear BK111; clear HB; have BK111 := n0_; have HB := n1_; clear n0_ n1_; (try clear hb); (try clear hb2); (try clear hk); (try clear hi)))
                        go_roundg k3
                        case measure => have := HJ1.out; have := HK2.out; have := HK3.out; omega
                        case rel => exact ⟨(wrap64 (x4_3 + 1)), (by first | rfl | (simp; done) | (simp [*]; done)), H', ⟨by have := HJ1.out; have := HK2.out; have := HK3.out; omega⟩, ⟨by (with_reducible repeat (first | refine qH ?_ _ | refine qI ?_ | refine qG ?_ _)); exact BK111.out⟩, ⟨by repeat (first | (with_reducible first | exact HB.out | apply qF | apply qC | apply qE | refine qB ?_ GE111.out) | exact HB.out)⟩⟩
                      · replace c21 := Bool.eq_false_iff.mpr c21
                        subst c21
                        have H1 : (some false) = some r := by first | rfl | (rw [if_neg (show ¬ (false = true) by decide)] at H; exact H)
                        clear H
                        have H := H1
                        clear H1
                        obtain rfl := Option.some.inj H
                        have hcz24_0 : wr.cell? ⟨gb111, 0, none⟩ = some (.slice A0_0 l0_0.length c0_0) := (qA BK111.out 0).trans rfl
                        have hcz24_1 : wr.cell? ⟨gb111, 1, none⟩ = some (.slice A0_1 l0_1.length c0_1) := (qA BK111.out 1).trans rfl
                        have hcz24_2 : wr.cell? ⟨gb111, 2, none⟩ = some (.int .i64 a0_2) := (qA BK111.out 2).trans rfl
                        have hcz24_3 : wr.cell? ⟨gb111, 3, none⟩ = some (.int .i64 a0_3) := (qA BK111.out 3).trans rfl
                        have hfz24_0 := qD BK111.out 0
                        have hfz24_1 := qD BK111.out 1
                        have hfz24_2 := qD BK111.out 2
                        have hfz24_3 := qD BK111.out 3
                        have p113 : 0 ≤ (x4_3 : Int) := of_decide_eq_true (by first | (with_reducible assumption) | assumption)
                        have q113 : x4_3 < (l0_1.length : Int) := of_decide_eq_true (by first | (with_reducible assumption) | assumption)
                        obtain ⟨ad113, e113, hx113_0, hx113_1⟩ := at_T70 HR0_1.out x4_3 p113 q113
                        cases e113
                        replace hx113_0 := (HB.out.cell (World.block_lt_of_cell? w _ hx113_0)).trans hx113_0
                        replace hx113_1 := (HB.out.cell (World.block_lt_of_cell? w _ hx113_1)).trans hx113_1
                        replace p113 := eq_true p113
                        replace q113 := eq_true q113
                        go_wp2_with (first | ((with_reducible refine qT (f := 67) rfl ?_); refine zL (some 51) rfl rfl Try.func67 (by kernel_rfl) rfl #[.agg #[.int .i64 ((rd_T70 l0_1 x4_3).f0), .string ((rd_T70 l0_1 x4_3).f1)]] rfl (by (try simp only [List.map_toArray, List.map_cons, List.map_nil]); first | done | rfl | (simp only [List.length_drop, List.length_take]; rfl)) ?_; (with_reducible refine (spec_l7Wait.calls ((rd_T70 l0_1 x4_3).f0) ((rd_T70 l0_1 x4_3).f1) false _ A20.out).mono ?_); rintro e w25 ⟨rfl, hb⟩; refine ⟨_, rfl, ?_⟩; have n0_ := Aside0.mk (qJ (g := gb111) (o := .cells #[.slice A0_0 l0_0.length c0_0, .slice (some ad113) l0_1.length c0_1, .int .i64 a0_2, .int .i64 a0_3] 26 (0, 0)) (bw_ BK111.out) hb); have n1_ := Aside0.mk (qN (by repeat (first | (with_reducible first | exact HB.out | apply qF | apply qC | apply qE | refine qB ?_ GE111.out) | exact HB.out)) hb); clear BK111; clear HB; have BK111 := n0_; have HB := n1_; clear n0_ n1_; (try clear hb); (try clear hb2); (try clear hk); (try clear hi)))
                        go_ret
                        exact ⟨by first | rfl | (simp [errW_none, errW_some] <;> rfl) | (simp [*, errW_none, errW_some] <;> rfl), by repeat (first | (with_reducible first | exact HB.out | apply qF | apply qC | apply qE | refine qB ?_ GE111.out) | exact HB.out)⟩
                    · rw [if_neg c19] at H
                      exact absurd H (by simp)
                  · rw [if_neg c18] at H
                    have c18b0 : decide (x4_3 < (l0_1.length : Int)) = false := decide_eq_false c18
                    clear c18
                    obtain rfl := Option.some.inj H
                    have hcz26_0 : wr.cell? ⟨gb111, 0, none⟩ = some (.slice A0_0 l0_0.length c0_0) := (qA BK111.out 0).trans rfl
                    have hcz26_1 : wr.cell? ⟨gb111, 1, none⟩ = some (.slice A0_1 l0_1.length c0_1) := (qA BK111.out 1).trans rfl
                    have hcz26_2 : wr.cell? ⟨gb111, 2, none⟩ = some (.int .i64 a0_2) := (qA BK111.out 2).trans rfl
                    have hcz26_3 : wr.cell? ⟨gb111, 3, none⟩ = some (.int .i64 a0_3) := (qA BK111.out 3).trans rfl
                    have hfz26_0 := qD BK111.out 0
                    have hfz26_1 := qD BK111.out 1
                    have hfz26_2 := qD BK111.out 2
                    have hfz26_3 := qD BK111.out 3
                    go_wp2
                    go_ret
                    exact ⟨by first | rfl | (simp [errW_none, errW_some] <;> rfl) | (simp [*, errW_none, errW_some] <;> rfl), by repeat (first | (with_reducible first | exact HB.out | apply qF | apply qC | apply qE | refine qB ?_ GE111.out) | exact HB.out)⟩

/-! ### spec_DiskOk: function 15 -/
def spec_DiskOk.f (k : Nat) (l0_0 : List ByteArray) (l0_1 : List (S70)) (a0_2 : Int) (a0_3 : Int) : Option (Bool) := (spec_l7Ok.f k l0_0 l0_1 a0_2 a0_3).bind fun t116 => (some t116)
theorem spec_DiskOk.mono : ∀ a0 a1 a2 a3 k, LeO (spec_DiskOk.f k a0 a1 a2 a3) (spec_DiskOk.f (k + 1) a0 a1 a2 a3) := by
  intro a0 a1 a2 a3 k
  unfold spec_DiskOk.f
  repeat' first
      | (with_reducible exact spec_l7Ok.mono _ _ _ _ _)
      | (with_reducible exact LeO.refl _)
      | (with_reducible exact LeO.none _)
      | (with_reducible refine LeO.ite ?_ ?_)
      | (with_reducible refine LeO.bind ?_ (fun _ => ?_))
      | exact spec_l7Ok.mono _ _ _ _ _
      | exact LeO.none _
      | refine LeO.ite ?_ ?_
      | refine LeO.bind ?_ (fun _ => ?_)
set_option maxHeartbeats 8000000 in
set_option maxRecDepth 100000 in
theorem spec_DiskOk.calls (k : Nat) (A0_0 : Option Addr) (c0_0 : Nat) (l0_0 : List ByteArray) (A0_1 : Option Addr) (c0_1 : Nat) (l0_1 : List (S70)) (a0_2 : Int) (a0_3 : Int) (r : Bool) (w : World) (hr0_0 : Kd.C Kd.string w A0_0 l0_0.length l0_0) (hc0_0 : l0_0.length ≤ c0_0) (hr0_1 : Kd.C k70 w A0_1 l0_1.length l0_1) (hc0_1 : l0_1.length ≤ c0_1) (h : spec_DiskOk.f k l0_0 l0_1 a0_2 a0_3 = some r) :
    Calls Try.prog 15 #[.agg #[.slice A0_0 l0_0.length c0_0, .slice A0_1 l0_1.length c0_1, .int .i64 a0_2, .int .i64 a0_3]] w fun e w' => e = .returned (.bool r) ∧ Below w.heap.size w w' := by
  have hu26 := Try.underlying26
  have HR0_0 := Aside0.mk hr0_0
  have HC0_0 := Aside0.mk hc0_0
  clear hr0_0 hc0_0
  have HR0_1 := Aside0.mk hr0_1
  have HC0_1 := Aside0.mk hc0_1
  clear hr0_1 hc0_1
  have HB := Aside0.mk (Below.refl w.heap.size w)
  have H : ((spec_l7Ok.f k l0_0 l0_1 a0_2 a0_3).bind fun t116 => (some t116)) = some r := h
  clear h
  replace H := Option.bind_eq_some_iff.mp H
  obtain ⟨t116, A20, H⟩ := H
  replace H : (some t116) = some r := H
  have A2 := Aside0.mk A20
  clear A20
  obtain rfl := Option.some.inj H
  go_enter Try.func15, Try.ntmps15
  go_wp2_with (first | ((with_reducible refine zB (N := 1) rfl ?_); refine qZ ?hg (N := 1) ?hd (cs := #[.slice A0_0 l0_0.length c0_0, .slice A0_1 l0_1.length c0_1, .int .i64 a0_2, .int .i64 a0_3]) (t := 26) ?hr ?_; (case hd => rfl); (case hg => rfl); (case hr => first | (go_simp; done) | (go_simp; rfl)); intro gb115 hg w3 hbox hb; have n0_ := Aside0.mk (qN (by repeat (first | (with_reducible first | exact HB.out | apply qF | apply qC | apply qE) | exact HB.out)) hb); have n1_ := Aside0.mk (hbox); have n2_ := Aside0.mk ((by rw [hg]; exact (qM (by repeat (first | (with_reducible first | exact HB.out | apply qF | apply qC | apply qE) | exact HB.out))) : w.heap.size ≤ gb115)); have n3_ := Aside0.mk ((by rw [hg]; exact (qM (by repeat (first | (with_reducible first | exact HB.out | apply qF | apply qC | apply qE) | exact HB.out))) : w.heap.size ≤ gb115)); clear HB; have HB := n0_; have BK115 := n1_; have GW115 := n2_; have GE115 := n3_; clear n0_ n1_ n2_ n3_; clear hb hbox hg; have hcz4_0 : w3.cell? ⟨gb115, 0, none⟩ = some (.slice A0_0 l0_0.length c0_0) := (qA BK115.out 0).trans rfl; have hcz4_1 : w3.cell? ⟨gb115, 1, none⟩ = some (.slice A0_1 l0_1.length c0_1) := (qA BK115.out 1).trans rfl; have hcz4_2 : w3.cell? ⟨gb115, 2, none⟩ = some (.int .i64 a0_2) := (qA BK115.out 2).trans rfl; have hcz4_3 : w3.cell? ⟨gb115, 3, none⟩ = some (.int .i64 a0_3) := (qA BK115.out 3).trans rfl; have hfz4_0 := qD BK115.out 0; have hfz4_1 := qD BK115.out 1; have hfz4_2 := qD BK115.out 2; have hfz4_3 := qD BK115.out 3) | ((with_reducible refine qT (f := 37) rfl ?_); refine zL (some 4) rfl rfl Try.func37 (by kernel_rfl) rfl #[.agg #[.slice A0_0 l0_0.length c0_0, .slice A0_1 l0_1.length c0_1, .int .i64 a0_2, .int .i64 a0_3]] rfl (by (try simp only [List.map_toArray, List.map_cons, List.map_nil]); first | done | rfl | (simp only [List.length_drop, List.length_take]; rfl)) ?_; (with_reducible refine (spec_l7Ok.calls k _ _ l0_0 _ _ l0_1 a0_2 a0_3 t116 _ ?side1 ?side2 ?side3 ?side4 A2.out).mono ?_); (case side1 => repeat (first | exact (Kd.zI HR0_0.out HB.out) | (with_reducible refine Kd.zC ?_ _) | (with_reducible refine Kd.zD ?_ _) | (with_reducible refine Kd.zH ?_))); (case side2 => exact HC0_0.out); (case side3 => repeat (first | exact (Kd.zI HR0_1.out HB.out) | (with_reducible refine Kd.zC ?_ _) | (with_reducible refine Kd.zD ?_ _) | (with_reducible refine Kd.zH ?_))); (case side4 => exact HC0_1.out); rintro e w5 ⟨rfl, hb⟩; refine ⟨_, rfl, ?_⟩; have n0_ := Aside0.mk (qJ (g := gb115) (o := .cells #[.slice A0_0 l0_0.length c0_0, .slice A0_1 l0_1.length c0_1, .int .i64 a0_2, .int .i64 a0_3] 26 (0, 0)) (bw_ BK115.out) hb); have n1_ := Aside0.mk (qN (by repeat (first | (with_reducible first | exact HB.out | apply qF | apply qC | apply qE | refine qB ?_ GE115.out) | exact HB.out)) hb); clear BK115; clear HB; have BK115 := n0_; have HB := n1_; clear n0_ n1_; (try clear hb); (try clear hb2); (try clear hk); (try clear hi)))
  go_ret
  exact ⟨by first | rfl | (simp [errW_none, errW_some] <;> rfl) | (simp [*, errW_none, errW_some] <;> rfl), by repeat (first | (with_reducible first | exact HB.out | apply qF | apply qC | apply qE | refine qB ?_ GE115.out) | exact HB.out)⟩

/-! ### impl_DiskOk_1: function 48 -/
def impl_DiskOk_1.f (a0 : ByteArray) : Option (Bool) := some (decide ((a0.size : Int) > 1200))
set_option maxHeartbeats 8000000 in
set_option maxRecDepth 100000 in
theorem impl_DiskOk_1.calls (a0 : ByteArray) (r : Bool) (w : World) (h : impl_DiskOk_1.f a0 = some r) :
    Calls Try.prog 48 #[.string a0] w fun e w' => e = .returned (.bool r) ∧ Drawn0 w w' := by
  have H : (some (decide ((a0.size : Int) > 1200))) = some r := h
  clear h
  obtain rfl := Option.some.inj H
  go_enter Try.func48, Try.ntmps48
  go_wp2
  go_ret
  exact ⟨by first | rfl | (simp; done) | (simp [*]; done), by repeat (first | exact Drawn0.refl _ | apply Drawn0.step)⟩

/-! ### impl_in: function 70 -/
def impl_in.f (a0 : Int) (a1 : Int) (a2 : Int) : Option (Bool) := if a0 ≥ a1 then (some (decide (a0 ≤ a2))) else (some false)
set_option maxHeartbeats 8000000 in
set_option maxRecDepth 100000 in
theorem impl_in.calls (a0 : Int) (a1 : Int) (a2 : Int) (r : Bool) (w : World) (h : impl_in.f a0 a1 a2 = some r) :
    Calls Try.prog 70 #[.int .i64 a0, .int .i64 a1, .int .i64 a2] w fun e w' => e = .returned (.bool r) ∧ Drawn0 w w' := by
  have H : (if a0 ≥ a1 then (some (decide (a0 ≤ a2))) else (some false)) = some r := h
  clear h
  by_cases c4 : a0 ≥ a1
  · rw [if_pos c4] at H
    have c4b0 : decide (a1 ≤ a0) = true := decide_eq_true c4
    clear c4
    obtain rfl := Option.some.inj H
    go_enter Try.func70, Try.ntmps70
    go_wp2
    go_ret
    exact ⟨by first | rfl | (simp; done) | (simp [*]; done), by repeat (first | exact Drawn0.refl _ | apply Drawn0.step)⟩
  · rw [if_neg c4] at H
    have c4b0 : decide (a1 ≤ a0) = false := decide_eq_false c4
    clear c4
    obtain rfl := Option.some.inj H
    go_enter Try.func70, Try.ntmps70
    go_wp2
    go_ret
    exact ⟨by first | rfl | (simp; done) | (simp [*]; done), by repeat (first | exact Drawn0.refl _ | apply Drawn0.step)⟩

/-! ### impl_isCell: function 45 -/
def impl_isCell.f (a0 : Int) : Option (Bool) := (impl_in.f a0 0 41).bind fun t117 => (some t117)
set_option maxHeartbeats 8000000 in
set_option maxRecDepth 100000 in
theorem impl_isCell.calls (a0 : Int) (r : Bool) (w : World) (h : impl_isCell.f a0 = some r) :
    Calls Try.prog 45 #[.int .i64 a0] w fun e w' => e = .returned (.bool r) ∧ Drawn0 w w' := by
  have H : ((impl_in.f a0 0 41).bind fun t117 => (some t117)) = some r := h
  clear h
  replace H := Option.bind_eq_some_iff.mp H
  obtain ⟨t117, A20, H⟩ := H
  replace H : (some t117) = some r := H
  have A2 := Aside0.mk A20
  clear A20
  obtain rfl := Option.some.inj H
  go_enter Try.func45, Try.ntmps45
  go_wp2_with (first | ((with_reducible refine qT (f := 70) rfl ?_); refine zL (some 4) rfl rfl Try.func70 (by kernel_rfl) rfl #[.int .i64 a0, .int .i64 0, .int .i64 41] rfl (by (try simp only [List.map_toArray, List.map_cons, List.map_nil]); first | done | rfl | (simp only [List.length_drop, List.length_take]; rfl)) ?_; (with_reducible refine (impl_in.calls a0 0 41 t117 _ A2.out).mono ?_); rintro e w' ⟨rfl, ⟨nd, rfl⟩⟩; refine ⟨_, rfl, ?_⟩))
  go_ret
  exact ⟨by first | rfl | (simp; done) | (simp [*]; done), by repeat (first | exact Drawn0.refl _ | apply Drawn0.step)⟩

/-! ### impl_DiskOk_2: function 50 -/
def impl_DiskOk_2.f (a0_0 : Int) (a0_1 : ByteArray) : Option (Bool) := (impl_isCell.f a0_0).bind fun t119 => (if t119 = true then (some (decide ((a0_1.size : Int) > 1200))) else (some true))
set_option maxHeartbeats 8000000 in
set_option maxRecDepth 100000 in
theorem impl_DiskOk_2.calls (a0_0 : Int) (a0_1 : ByteArray) (r : Bool) (w : World) (h : impl_DiskOk_2.f a0_0 a0_1 = some r) :
    Calls Try.prog 50 #[.agg #[.int .i64 a0_0, .string a0_1]] w fun e w' => e = .returned (.bool r) ∧ Below w.heap.size w w' := by
  have hu70 := Try.underlying70
  have HB := Aside0.mk (Below.refl w.heap.size w)
  have H : ((impl_isCell.f a0_0).bind fun t119 => (if t119 = true then (some (decide ((a0_1.size : Int) > 1200))) else (some true))) = some r := h
  clear h
  replace H := Option.bind_eq_some_iff.mp H
  obtain ⟨t119, A20, H⟩ := H
  replace H : (if t119 = true then (some (decide ((a0_1.size : Int) > 1200))) else (some true)) = some r := H
  have A2 := Aside0.mk A20
  clear A20
  by_cases c3 : t119 = true
  · subst c3
    have H1 : (some (decide ((a0_1.size : Int) > 1200))) = some r := by first | rfl | (rw [if_pos rfl] at H; exact H)
    clear H
    have H := H1
    clear H1
    obtain rfl := Option.some.inj H
    go_enter Try.func50, Try.ntmps50
    go_wp2_with (first | ((with_reducible refine zB (N := 1) rfl ?_); refine qZ ?hg (N := 1) ?hd (cs := #[.int .i64 a0_0, .string a0_1]) (t := 70) ?hr ?_; (case hd => rfl); (case hg => rfl); (case hr => first | (go_simp; done) | (go_simp; rfl)); intro gb118 hg w4 hbox hb; have n0_ := Aside0.mk (qN (by repeat (first | (with_reducible first | exact HB.out | apply qF | apply qC | apply qE) | exact HB.out)) hb); have n1_ := Aside0.mk (hbox); have n2_ := Aside0.mk ((by rw [hg]; exact (qM (by repeat (first | (with_reducible first | exact HB.out | apply qF | apply qC | apply qE) | exact HB.out))) : w.heap.size ≤ gb118)); have n3_ := Aside0.mk ((by rw [hg]; exact (qM (by repeat (first | (with_reducible first | exact HB.out | apply qF | apply qC | apply qE) | exact HB.out))) : w.heap.size ≤ gb118)); clear HB; have HB := n0_; have BK118 := n1_; have GW118 := n2_; have GE118 := n3_; clear n0_ n1_ n2_ n3_; clear hb hbox hg; have hcz5_0 : w4.cell? ⟨gb118, 0, none⟩ = some (.int .i64 a0_0) := (qA BK118.out 0).trans rfl; have hcz5_1 : w4.cell? ⟨gb118, 1, none⟩ = some (.string a0_1) := (qA BK118.out 1).trans rfl; have hfz5_0 := qD BK118.out 0; have hfz5_1 := qD BK118.out 1) | ((with_reducible refine qT (f := 45) rfl ?_); refine zL (some 5) rfl rfl Try.func45 (by kernel_rfl) rfl #[.int .i64 a0_0] rfl (by (try simp only [List.map_toArray, List.map_cons, List.map_nil]); first | done | rfl | (simp only [List.length_drop, List.length_take]; rfl)) ?_; (with_reducible refine (impl_isCell.calls a0_0 true _ A2.out).mono ?_); rintro e w' ⟨rfl, ⟨nd, rfl⟩⟩; refine ⟨_, rfl, ?_⟩))
    go_ret
    exact ⟨by first | rfl | (simp [errW_none, errW_some] <;> rfl) | (simp [*, errW_none, errW_some] <;> rfl), by repeat (first | (with_reducible first | exact HB.out | apply qF | apply qC | apply qE | refine qB ?_ GE118.out) | exact HB.out)⟩
  · replace c3 := Bool.eq_false_iff.mpr c3
    subst c3
    have H1 : (some true) = some r := by first | rfl | (rw [if_neg (show ¬ (false = true) by decide)] at H; exact H)
    clear H
    have H := H1
    clear H1
    obtain rfl := Option.some.inj H
    go_enter Try.func50, Try.ntmps50
    go_wp2_with (first | ((with_reducible refine zB (N := 1) rfl ?_); refine qZ ?hg (N := 1) ?hd (cs := #[.int .i64 a0_0, .string a0_1]) (t := 70) ?hr ?_; (case hd => rfl); (case hg => rfl); (case hr => first | (go_simp; done) | (go_simp; rfl)); intro gb118 hg w6 hbox hb; have n0_ := Aside0.mk (qN (by repeat (first | (with_reducible first | exact HB.out | apply qF | apply qC | apply qE) | exact HB.out)) hb); have n1_ := Aside0.mk (hbox); have n2_ := Aside0.mk ((by rw [hg]; exact (qM (by repeat (first | (with_reducible first | exact HB.out | apply qF | apply qC | apply qE) | exact HB.out))) : w.heap.size ≤ gb118)); have n3_ := Aside0.mk ((by rw [hg]; exact (qM (by repeat (first | (with_reducible first | exact HB.out | apply qF | apply qC | apply qE) | exact HB.out))) : w.heap.size ≤ gb118)); clear HB; have HB := n0_; have BK118 := n1_; have GW118 := n2_; have GE118 := n3_; clear n0_ n1_ n2_ n3_; clear hb hbox hg; have hcz7_0 : w6.cell? ⟨gb118, 0, none⟩ = some (.int .i64 a0_0) := (qA BK118.out 0).trans rfl; have hcz7_1 : w6.cell? ⟨gb118, 1, none⟩ = some (.string a0_1) := (qA BK118.out 1).trans rfl; have hfz7_0 := qD BK118.out 0; have hfz7_1 := qD BK118.out 1) | ((with_reducible refine qT (f := 45) rfl ?_); refine zL (some 5) rfl rfl Try.func45 (by kernel_rfl) rfl #[.int .i64 a0_0] rfl (by (try simp only [List.map_toArray, List.map_cons, List.map_nil]); first | done | rfl | (simp only [List.length_drop, List.length_take]; rfl)) ?_; (with_reducible refine (impl_isCell.calls a0_0 false _ A2.out).mono ?_); rintro e w' ⟨rfl, ⟨nd, rfl⟩⟩; refine ⟨_, rfl, ?_⟩))
    go_ret
    exact ⟨by first | rfl | (simp [errW_none, errW_some] <;> rfl) | (simp [*, errW_none, errW_some] <;> rfl), by repeat (first | (with_reducible first | exact HB.out | apply qF | apply qC | apply qE | refine qB ?_ GE118.out) | exact HB.out)⟩

/-! ### impl_DiskOk: function 22 (a contract of this session's) -/
def impl_DiskOk.C.p (x : ByteArray) : Bool := decide ((x.size : Int) > 1200)
def impl_DiskOk.C.any (l : List ByteArray) : Bool := l.any impl_DiskOk.C.p
theorem impl_DiskOk.C.p_ok (x : ByteArray) : impl_DiskOk_1.f x = some (impl_DiskOk.C.p x) := by
  rfl
set_option maxHeartbeats 4000000 in
set_option maxRecDepth 100000 in
theorem impl_DiskOk.C.Index (A0 : Option Addr) (c0 : Nat) (l0 : List ByteArray) (w : World) (hr0 : Kd.C Kd.string w A0 l0.length l0) (hc0 : l0.length ≤ c0) :
    Calls Try.prog 72 #[.slice A0 l0.length c0, .func (.func 48) #[] #[]] w fun e w' => e = .returned (.int .i64 (firstAt impl_DiskOk.C.p l0 0)) ∧ Below w.heap.size w w' := by
  have HR := Aside0.mk hr0
  have HM : Aside0 (l0.length ≤ 9223372036854775807) := ⟨hr0.2.1⟩
  clear hr0 hc0
  go_enter Try.func72, Try.ntmps72
  go_wp2
  go_loopg [5, 8] l0.length (fun kq v5 v8 w' => ∃ (i : Nat), v8 = .int .i64 (i : Int) ∧ Aside0 (i + kq = l0.length) ∧ Aside0 (firstAt impl_DiskOk.C.p l0 0 = firstAt impl_DiskOk.C.p (l0.drop i) i) ∧ Aside0 (Below w.heap.size w w'))
  case atStart => exact ⟨0, rfl, ⟨by omega⟩, ⟨by simp⟩, ⟨Below.refl _ _⟩⟩
  case round =>
    obtain ⟨i, rfl, HI, HF, HB⟩ := hrel
    cases gk with
    | zero =>
      have hi := HI.out
      have c1 : decide ((i : Int) < (l0.length : Int)) = false := by simp; omega
      go_wp2
      go_ret
      have := HF.out
      rw [List.drop_of_length_le (by omega)] at this
      exact ⟨by rw [this]; rfl, HB.out⟩
    | succ k1 =>
      have hi := HI.out
      have hlt : i < l0.length := by omega
      obtain ⟨ad, e1, hx0⟩ := Kd.xF (Kd.zI HR.out HB.out) (i : Int) (by omega) (by omega)
      cases e1
      rw [Int.toNat_natCast] at hx0
      have HS := Aside0.mk (firstAt_drop impl_DiskOk.C.p ByteArray.empty l0 i hlt)
      have c1 : decide ((i : Int) < (l0.length : Int)) = true := by simp; omega
      have c2 : (0 ≤ (i : Int)) = True := by simp
      have c3 : ((i : Int) < (l0.length : Int)) = True := by simp; omega
      have hm := HM.out
      have hlt' : i < l0.length := hlt
      clear hi hlt
      go_wp2_with (go_at_call 48; refine (impl_DiskOk_1.calls _ _ _ (impl_DiskOk.C.p_ok _)).mono ?_; rintro e w1 ⟨rfl, hd⟩)
      · go_ret
        have h1 := HF.out
        rw [HS.out, if_pos (by assumption)] at h1
        exact ⟨by rw [h1]; rfl, xG HB.out HB.out.size hd.below⟩
      · go_roundg k1
        case measure => omega
        case rel => exact ⟨i + 1, by go_num, ⟨by have := HI.out; omega⟩, ⟨by rw [HF.out, HS.out, if_neg (ne_true_of_eq_false (by assumption))]⟩, ⟨xG HB.out HB.out.size hd.below⟩⟩
set_option maxHeartbeats 4000000 in
set_option maxRecDepth 100000 in
theorem impl_DiskOk.C.Contains (A0 : Option Addr) (c0 : Nat) (l0 : List ByteArray) (w : World) (hr0 : Kd.C Kd.string w A0 l0.length l0) (hc0 : l0.length ≤ c0) :
    Calls Try.prog 47 #[.slice A0 l0.length c0, .func (.func 48) #[] #[]] w fun e w' => e = .returned (.bool (impl_DiskOk.C.any l0)) ∧ Below w.heap.size w w' := by
  have HR := Aside0.mk hr0
  have HC := Aside0.mk hc0
  have HA := Aside0.mk (firstAt_any impl_DiskOk.C.p l0 0)
  clear hr0 hc0
  go_enter Try.func47, Try.ntmps47
  go_wp2_with (go_at_call 72; refine (impl_DiskOk.C.Index _ _ _ _ HR.out HC.out).mono ?_; rintro e w1 ⟨rfl, hb⟩)
  go_ret
  exact ⟨by unfold impl_DiskOk.C.any; rw [← HA.out]; rfl, hb⟩
def impl_DiskOk.W.p (x : S70) : Bool := !(decide (0 ≤ x.f0) && decide (x.f0 ≤ 41)) || decide ((x.f1.size : Int) > 1200)
def impl_DiskOk.W.any (l : List S70) : Bool := l.any impl_DiskOk.W.p
theorem impl_DiskOk.W.p_ok (x : S70) : impl_DiskOk_2.f x.f0 x.f1 = some (impl_DiskOk.W.p x) := by
  by_cases h1 : 0 ≤ x.f0 <;> by_cases h2 : x.f0 ≤ 41 <;> simp [impl_DiskOk_2.f, impl_isCell.f, impl_in.f, impl_DiskOk.W.p, h1, h2]
set_option maxHeartbeats 4000000 in
set_option maxRecDepth 100000 in
theorem impl_DiskOk.W.Index (A0 : Option Addr) (c0 : Nat) (l0 : List S70) (w : World) (hr0 : Kd.C k70 w A0 l0.length l0) (hc0 : l0.length ≤ c0) :
    Calls Try.prog 73 #[.slice A0 l0.length c0, .func (.func 50) #[] #[]] w fun e w' => e = .returned (.int .i64 (firstAt impl_DiskOk.W.p l0 0)) ∧ Below w.heap.size w w' := by
  have HR := Aside0.mk hr0
  have HM : Aside0 (l0.length ≤ 9223372036854775807) := ⟨hr0.2.1⟩
  clear hr0 hc0
  go_enter Try.func73, Try.ntmps73
  go_wp2
  go_loopg [5, 8] l0.length (fun kq v5 v8 w' => ∃ (i : Nat), v8 = .int .i64 (i : Int) ∧ Aside0 (i + kq = l0.length) ∧ Aside0 (firstAt impl_DiskOk.W.p l0 0 = firstAt impl_DiskOk.W.p (l0.drop i) i) ∧ Aside0 (Below w.heap.size w w'))
  case atStart => exact ⟨0, rfl, ⟨by omega⟩, ⟨by simp⟩, ⟨Below.refl _ _⟩⟩
  case round =>
    obtain ⟨i, rfl, HI, HF, HB⟩ := hrel
    cases gk with
    | zero =>
      have hi := HI.out
      have c1 : decide ((i : Int) < (l0.length : Int)) = false := by simp; omega
      go_wp2
      go_ret
      have := HF.out
      rw [List.drop_of_length_le (by omega)] at this
      exact ⟨by rw [this]; rfl, HB.out⟩
    | succ k1 =>
      have hi := HI.out
      have hlt : i < l0.length := by omega
      obtain ⟨ad, e1, hx0, hx1⟩ := at_T70 (Kd.zI HR.out HB.out) (i : Int) (by omega) (by omega)
      cases e1
      rw [Int.toNat_natCast] at hx0 hx1
      have HS := Aside0.mk (firstAt_drop impl_DiskOk.W.p z70 l0 i hlt)
      have c1 : decide ((i : Int) < (l0.length : Int)) = true := by simp; omega
      have c2 : (0 ≤ (i : Int)) = True := by simp
      have c3 : ((i : Int) < (l0.length : Int)) = True := by simp; omega
      have hm := HM.out
      have hlt' : i < l0.length := hlt
      clear hi hlt
      go_wp2_with (go_at_call 50; refine (impl_DiskOk_2.calls _ _ _ _ (impl_DiskOk.W.p_ok _)).mono ?_; rintro e w1 ⟨rfl, hd⟩)
      · go_ret
        have h1 := HF.out
        rw [HS.out, if_pos (by assumption)] at h1
        exact ⟨by rw [h1]; rfl, xG HB.out HB.out.size hd⟩
      · go_roundg k1
        case measure => omega
        case rel => exact ⟨i + 1, by go_num, ⟨by have := HI.out; omega⟩, ⟨by rw [HF.out, HS.out, if_neg (ne_true_of_eq_false (by assumption))]⟩, ⟨xG HB.out HB.out.size hd⟩⟩
set_option maxHeartbeats 4000000 in
set_option maxRecDepth 100000 in
theorem impl_DiskOk.W.Contains (A0 : Option Addr) (c0 : Nat) (l0 : List S70) (w : World) (hr0 : Kd.C k70 w A0 l0.length l0) (hc0 : l0.length ≤ c0) :
    Calls Try.prog 49 #[.slice A0 l0.length c0, .func (.func 50) #[] #[]] w fun e w' => e = .returned (.bool (impl_DiskOk.W.any l0)) ∧ Below w.heap.size w w' := by
  have HR := Aside0.mk hr0
  have HC := Aside0.mk hc0
  have HA := Aside0.mk (firstAt_any impl_DiskOk.W.p l0 0)
  clear hr0 hc0
  go_enter Try.func49, Try.ntmps49
  go_wp2_with (go_at_call 73; refine (impl_DiskOk.W.Index _ _ _ _ HR.out HC.out).mono ?_; rintro e w1 ⟨rfl, hb⟩)
  go_ret
  exact ⟨by unfold impl_DiskOk.W.any; rw [← HA.out]; rfl, hb⟩
def impl_DiskOk.ok (l0_0 : List ByteArray) (l0_1 : List S70) (a0_2 a0_3 : Int) : Bool := decide ((l0_0.length : Int) = 42) && (!(impl_DiskOk.C.any l0_0) && (decide ((l0_1.length : Int) ≤ 100) && (!(impl_DiskOk.W.any l0_1) && (decide (a0_2 ≥ -1) && decide (a0_3 ≥ -1)))))
def impl_DiskOk.f (l0_0 : List ByteArray) (l0_1 : List S70) (a0_2 a0_3 : Int) : Option Bool := some (impl_DiskOk.ok l0_0 l0_1 a0_2 a0_3)
set_option maxHeartbeats 4000000 in
set_option maxRecDepth 100000 in
theorem impl_DiskOk.calls (A0_0 : Option Addr) (c0_0 : Nat) (l0_0 : List ByteArray) (A0_1 : Option Addr) (c0_1 : Nat) (l0_1 : List S70) (a0_2 : Int) (a0_3 : Int) (r : Bool) (w : World) (hr0_0 : Kd.C Kd.string w A0_0 l0_0.length l0_0) (hc0_0 : l0_0.length ≤ c0_0) (hr0_1 : Kd.C k70 w A0_1 l0_1.length l0_1) (hc0_1 : l0_1.length ≤ c0_1) (h : impl_DiskOk.f l0_0 l0_1 a0_2 a0_3 = some r) :
    Calls Try.prog 22 #[.agg #[.slice A0_0 l0_0.length c0_0, .slice A0_1 l0_1.length c0_1, .int .i64 a0_2, .int .i64 a0_3]] w fun e w' => e = .returned (.bool r) ∧ Below w.heap.size w w' := by
  have hu26 := Try.underlying26
  obtain rfl := Option.some.inj h
  clear h
  have HR0 := Aside0.mk hr0_0
  have HC0 := Aside0.mk hc0_0
  have HR1 := Aside0.mk hr0_1
  have HC1 := Aside0.mk hc0_1
  have HB := Aside0.mk (Below.refl w.heap.size w)
  clear hr0_0 hc0_0 hr0_1 hc0_1
  go_enter Try.func22, Try.ntmps22
  go_wp2_with (first | ((with_reducible refine zB (N := 1) rfl ?_); (try (refine xC (by rfl) ?_; dsimp only)); refine qZ ?hg (N := 1) ?hd (cs := #[.slice A0_0 l0_0.length c0_0, .slice A0_1 l0_1.length c0_1, .int .i64 a0_2, .int .i64 a0_3]) (t := 26) ?hr ?_; (case hd => rfl); (case hg => rfl); (case hr => first | (go_simp; done) | (go_simp; rfl)); intro gb hg w1 hbox hb; have BKgb := Aside0.mk hbox; have HB1 := Aside0.mk (qN HB.out hb); have GEgb := Aside0.mk (by rw [hg]; exact HB.out.size : w.heap.size ≤ gb); clear HB; have HB := HB1; clear HB1; clear hb hbox hg; have hzgb_0 : w1.cell? ⟨gb, 0, none⟩ = some (.slice A0_0 l0_0.length c0_0) := (qA BKgb.out 0).trans rfl; have hfgb_0 : w1.frozen? ⟨gb, 0, none⟩ = false := qD BKgb.out 0; have hzgb_1 : w1.cell? ⟨gb, 1, none⟩ = some (.slice A0_1 l0_1.length c0_1) := (qA BKgb.out 1).trans rfl; have hfgb_1 : w1.frozen? ⟨gb, 1, none⟩ = false := qD BKgb.out 1; have hzgb_2 : w1.cell? ⟨gb, 2, none⟩ = some (.int .i64 a0_2) := (qA BKgb.out 2).trans rfl; have hfgb_2 : w1.frozen? ⟨gb, 2, none⟩ = false := qD BKgb.out 2; have hzgb_3 : w1.cell? ⟨gb, 3, none⟩ = some (.int .i64 a0_3) := (qA BKgb.out 3).trans rfl; have hfgb_3 : w1.frozen? ⟨gb, 3, none⟩ = false := qD BKgb.out 3) | (go_at_call 47; refine (impl_DiskOk.C.Contains _ _ _ _ (Kd.zI HR0.out HB.out) HC0.out).mono ?_; rintro e w2 ⟨rfl, hb⟩; have BK1 := Aside0.mk (qJ BKgb.out hb); have HB1 := Aside0.mk (qN HB.out hb); clear HB BKgb; have HB := HB1; have BKgb := BK1; clear HB1 BK1 hb; clear hzgb_0 hfgb_0 hzgb_1 hfgb_1 hzgb_2 hfgb_2 hzgb_3 hfgb_3; have hzgb_0 : w2.cell? ⟨gb, 0, none⟩ = some (.slice A0_0 l0_0.length c0_0) := (qA BKgb.out 0).trans rfl; have hfgb_0 : w2.frozen? ⟨gb, 0, none⟩ = false := qD BKgb.out 0; have hzgb_1 : w2.cell? ⟨gb, 1, none⟩ = some (.slice A0_1 l0_1.length c0_1) := (qA BKgb.out 1).trans rfl; have hfgb_1 : w2.frozen? ⟨gb, 1, none⟩ = false := qD BKgb.out 1; have hzgb_2 : w2.cell? ⟨gb, 2, none⟩ = some (.int .i64 a0_2) := (qA BKgb.out 2).trans rfl; have hfgb_2 : w2.frozen? ⟨gb, 2, none⟩ = false := qD BKgb.out 2; have hzgb_3 : w2.cell? ⟨gb, 3, none⟩ = some (.int .i64 a0_3) := (qA BKgb.out 3).trans rfl; have hfgb_3 : w2.frozen? ⟨gb, 3, none⟩ = false := qD BKgb.out 3) | (go_at_call 49; refine (impl_DiskOk.W.Contains _ _ _ _ (Kd.zI HR1.out HB.out) HC1.out).mono ?_; rintro e w3 ⟨rfl, hb⟩; have BK1 := Aside0.mk (qJ BKgb.out hb); have HB1 := Aside0.mk (qN HB.out hb); clear HB BKgb; have HB := HB1; have BKgb := BK1; clear HB1 BK1 hb; clear hzgb_0 hfgb_0 hzgb_1 hfgb_1 hzgb_2 hfgb_2 hzgb_3 hfgb_3; have hzgb_0 : w3.cell? ⟨gb, 0, none⟩ = some (.slice A0_0 l0_0.length c0_0) := (qA BKgb.out 0).trans rfl; have hfgb_0 : w3.frozen? ⟨gb, 0, none⟩ = false := qD BKgb.out 0; have hzgb_1 : w3.cell? ⟨gb, 1, none⟩ = some (.slice A0_1 l0_1.length c0_1) := (qA BKgb.out 1).trans rfl; have hfgb_1 : w3.frozen? ⟨gb, 1, none⟩ = false := qD BKgb.out 1; have hzgb_2 : w3.cell? ⟨gb, 2, none⟩ = some (.int .i64 a0_2) := (qA BKgb.out 2).trans rfl; have hfgb_2 : w3.frozen? ⟨gb, 2, none⟩ = false := qD BKgb.out 2; have hzgb_3 : w3.cell? ⟨gb, 3, none⟩ = some (.int .i64 a0_3) := (qA BKgb.out 3).trans rfl; have hfgb_3 : w3.frozen? ⟨gb, 3, none⟩ = false := qD BKgb.out 3))
  all_goals
    go_ret
    refine ⟨?_, HB.out⟩
    show _ = Ending.returned (.bool (impl_DiskOk.ok l0_0 l0_1 a0_2 a0_3))
    unfold impl_DiskOk.ok
    first | (simp_all; done) | (simp_all; omega)


/-! ### impl_clone_string: function 63 (a contract of this session's) -/
def impl_clone_string.f (l0 : List (ByteArray)) : Option (List (ByteArray)) := if l0.length < 8796093022208 then some l0 else none
set_option maxHeartbeats 4000000 in
set_option maxRecDepth 100000 in
theorem impl_clone_string.Clone (A0 : Option Addr) (c0 : Nat) (l0 : List (ByteArray)) (w : World) (hr0 : Kd.C Kd.string w A0 l0.length l0) (hc0 : l0.length ≤ c0) (h : l0.length < 8796093022208) :
    Calls Try.prog 79 #[.slice A0 l0.length c0] w fun e w' => ∃ v0_ : Value, e = .returned (v0_) ∧ Kd.R Kd.string 9 w' w.heap.size (fun _ => True) v0_ l0 ∧ Below w.heap.size w w' := by
  have hu23 := Try.underlying23
  have HL := Aside0.mk h
  cases A0 with
  | none =>
    obtain rfl : l0 = [] := by
      rcases Nat.eq_zero_or_pos l0.length with h0 | h0
      · exact List.eq_nil_of_length_eq_zero h0
      · obtain ⟨ad, e, _⟩ := hr0.2.2 h0; cases e
    clear hr0 h
    have hq : ∀ (W : World) , (binOp .eql 23 (.slice none 0 c0) (.slice none 0 0)).run Try.prog W = .ok (.bool true) W := fun W => Lib.run_eql_slice_nil W 23 9 none 0 c0 0 0 Try.underlying23
    go_enter Try.func79, Try.ntmps79
    go_wp2
    go_ret
    exact ⟨_, rfl, Kd.R_nil _ _ _ _ _, Below.refl _ _⟩
  | some ad =>
    have HR := Aside0.mk hr0
    clear hr0 h
    have hq : ∀ (W : World) , (binOp .eql 23 (.slice (some ad) l0.length c0) (.slice none 0 0)).run Try.prog W = .ok (.bool false) W := fun W => Lib.run_eql_slice_nil W 23 9 (some ad) l0.length c0 0 0 Try.underlying23
    go_enter Try.func79, Try.ntmps79
    go_wp2_with (first | ((with_reducible refine zB (N := 5) rfl ?_); refine Kd.R_lit Kd.string _ 9 ?hg (N := 5) ?hd (xs := ([] : List (ByteArray))) (inner := []) (ok := fun _ => True) (okp := fun _ => True) ?hr ?hp (fun _ hk => hk) trivial (Below.refl _ _) (Nat.le_refl _) (by simp) ?_; (case hd => rfl); (case hg => rfl); (case hr => first | (go_simp; done) | (go_simp; rfl)); (case hp => exact (Reps.none _ _)); intro v1 w1 ho1 hb1 hg_ hnew_; clear hg_ hnew_; have HO := Aside0.mk (Kd.zJ ho1 (qM (Below.refl _ _) : w.heap.size ≤ _)); have HB := Aside0.mk hb1; clear ho1 hb1) | ((with_reducible refine xH (b := .append) (xs := #[.tmp 5, .tmp 6]) rfl ?_); at_builtin; refine Kd.R_append_rows Kd.string (w0 := w) w.heap.size rfl (.tmp 5) (.tmp 6) 23 9 (.string ⟨#[]⟩) 16 rfl Try.underlying23 info9 rfl (by decide) (by omega) v1 [] l0 _ _ _ (fun _ => True) (fun _ => False) rfl rfl ?aO ?aR (fun _ _ h => h) (fun _ h => h.elim) ?aF ?aB ?aS ?aL ?_; (case aR => repeat (first | exact (Kd.zI HR.out HB.out) | (with_reducible refine Kd.zC ?_ _) | (with_reducible refine Kd.zD ?_ _) | (with_reducible refine Kd.zH ?_))); (case aB => exact HB.out); (case aF => exact (fun _ _ => trivial)); (case aO => exact HO.out); (case aS => exact (qM HB.out)); (case aL => have := HL.out; simp; omega); intro v2 w2 ho hb hg hat; clear hg hat; have HO2 := Aside0.mk ho; have HB2 := Aside0.mk hb; clear ho hb))
    go_ret
    exact ⟨_, rfl, HO2.out, HB2.out⟩
set_option maxHeartbeats 4000000 in
set_option maxRecDepth 100000 in
theorem impl_clone_string.calls (A0 : Option Addr) (c0 : Nat) (l0 : List (ByteArray)) (r : List (ByteArray)) (w : World) (hr0 : Kd.C Kd.string w A0 l0.length l0) (hc0 : l0.length ≤ c0) (h : impl_clone_string.f l0 = some r) :
    Calls Try.prog 63 #[.slice A0 l0.length c0] w fun e w' => ∃ v0_ : Value, e = .returned (v0_) ∧ Kd.R Kd.string 9 w' w.heap.size (fun _ => True) v0_ r ∧ Below w.heap.size w w' := by
  have hu23 := Try.underlying23
  unfold impl_clone_string.f at h
  by_cases hlim : l0.length < 8796093022208
  case neg => rw [if_neg hlim] at h; cases h
  rw [if_pos hlim] at h
  obtain rfl := Option.some.inj h
  have HR := Aside0.mk hr0
  have HC := Aside0.mk hc0
  have HL := Aside0.mk hlim
  clear hr0 h hc0 hlim
  go_enter Try.func63, Try.ntmps63
  go_wp2_with (first | (go_at_call 78; go_in) | (go_at_call 79; refine (impl_clone_string.Clone _ _ _ _ HR.out HC.out HL.out).mono ?_; rintro e w1 ⟨v1, rfl, ho1, hb1⟩; obtain ⟨A1, c1, rfl, hle, hm1⟩ := Kd.R_reads ho1; have hm : l0.length ≤ 9223372036854775807 := hm1.2.1; clear hm1; have HO := Aside0.mk ho1; have HB := Aside0.mk hb1; clear ho1 hb1))
  go_ret
  exact ⟨_, rfl, R_clip HO.out, HB.out⟩


end Go.Proofs.Ytepihebkdnmppaa.Ak
