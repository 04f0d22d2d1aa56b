/- Walks of the seat's functions, written by a program of this session (xprint.py) with the kit's printer: each call comes to just what its Lean function says. -/
import Derived.Test.YtepihebkdnmppaaxAg0
import Derived.Test.YtepihebkdnmppaaxAg2
namespace Go.Proofs.Ytepihebkdnmppaa.Ag
open Go.RowKit Go.Proofs.YtepihebkdnmppaaV.PrintWords Go.Proofs.YtepihebkdnmppaaV.PrintLast Go.Proofs.YtepihebkdnmppaaV.PrintMore
attribute [local go_sem] xB xC max_two min_two zT zU xD xE   -- for this text's walks alone
attribute [local go_sem high] World.zH
set_option linter.unusedVariables false
set_option linter.unusedSimpArgs false

/-! ### spec_l7Ok: function 37 -/
mutual
def spec_l7Ok.j0 : Nat → Bool → List ByteArray → List (S70) → Int → Int → Option (Bool)
  | 0, _, _, _, _, _ => none
  | k + 1, x24, x115000, x115001, x115002, x115003 => if x24 = true then (some false) else (spec_l7Ok.l0 k 0 x115000 x115001 x115002 x115003)
def spec_l7Ok.l0 : Nat → Int → List ByteArray → List (S70) → Int → Int → Option (Bool)
  | 0, _, _, _, _, _ => none
  | k + 1, x3, x115000, x115001, x115002, x115003 => if x3 < (x115000.length : Int) then (if 0 ≤ x3 then (if ((rdOf ByteArray.empty x115000 x3).size : Int) > 1200 then (some false) else (spec_l7Ok.l0 k (wrap64 (x3 + 1)) x115000 x115001 x115002 x115003)) else (none)) else (spec_l7Ok.l1 k 0 x115000 x115001 x115002 x115003)
def spec_l7Ok.l1 : Nat → Int → List ByteArray → List (S70) → Int → Int → Option (Bool)
  | 0, _, _, _, _, _ => none
  | k + 1, x4, x115000, x115001, x115002, x115003 => if x4 < (x115001.length : Int) then (if 0 ≤ x4 then ((spec_l7Wait.f ((rd_T70 x115001 x4).f0) ((rd_T70 x115001 x4).f1)).bind fun t117 => (if t117 = true then (spec_l7Ok.l1 k (wrap64 (x4 + 1)) x115000 x115001 x115002 x115003) else (some false))) else (none)) else (some true)
end
def spec_l7Ok.f (k : Nat) (l0_0 : List ByteArray) (l0_1 : List (S70)) (a0_2 : Int) (a0_3 : Int) : Option (Bool) := if (l0_0.length : Int) = 42 then (if (l0_1.length : Int) > 100 then (spec_l7Ok.j0 k true l0_0 l0_1 a0_2 a0_3) else (if a0_2 < (-1) then (spec_l7Ok.j0 k true l0_0 l0_1 a0_2 a0_3) else (spec_l7Ok.j0 k (decide (a0_3 < (-1))) l0_0 l0_1 a0_2 a0_3))) else (spec_l7Ok.j0 k true l0_0 l0_1 a0_2 a0_3)
theorem spec_l7Ok.mono_l : ∀ k, (∀ y0 y1 y2 y3 y4, LeO (spec_l7Ok.j0 k y0 y1 y2 y3 y4) (spec_l7Ok.j0 (k + 1) y0 y1 y2 y3 y4)) ∧ (∀ y0 y1 y2 y3 y4, LeO (spec_l7Ok.l0 k y0 y1 y2 y3 y4) (spec_l7Ok.l0 (k + 1) y0 y1 y2 y3 y4)) ∧ (∀ y0 y1 y2 y3 y4, LeO (spec_l7Ok.l1 k y0 y1 y2 y3 y4) (spec_l7Ok.l1 (k + 1) y0 y1 y2 y3 y4))
  | 0 => ⟨fun _ _ _ _ _ r h => by simp [spec_l7Ok.j0] at h, fun _ _ _ _ _ r h => by simp [spec_l7Ok.l0] at h, fun _ _ _ _ _ r h => by simp [spec_l7Ok.l1] at h⟩
  | k + 1 => by
    obtain ⟨ih0, ih1, ih2⟩ := spec_l7Ok.mono_l k
    refine ⟨?_, ?_, ?_⟩
    · intro y0 y1 y2 y3 y4
      unfold spec_l7Ok.j0
      repeat' first
      | (with_reducible exact ih0 _ _ _ _ _)
      | (with_reducible exact ih1 _ _ _ _ _)
      | (with_reducible exact ih2 _ _ _ _ _)
      | (with_reducible exact LeO.refl _)
      | (with_reducible exact LeO.none _)
      | (with_reducible refine LeO.ite ?_ ?_)
      | (with_reducible refine LeO.bind ?_ (fun _ => ?_))
      | exact ih0 _ _ _ _ _
      | exact ih1 _ _ _ _ _
      | exact ih2 _ _ _ _ _
      | exact LeO.none _
      | refine LeO.ite ?_ ?_
      | refine LeO.bind ?_ (fun _ => ?_)
    · intro y0 y1 y2 y3 y4
      unfold spec_l7Ok.l0
      repeat' first
      | (with_reducible exact ih0 _ _ _ _ _)
      | (with_reducible exact ih1 _ _ _ _ _)
      | (with_reducible exact ih2 _ _ _ _ _)
      | (with_reducible exact LeO.refl _)
      | (with_reducible exact LeO.none _)
      | (with_reducible refine LeO.ite ?_ ?_)
      | (with_reducible refine LeO.bind ?_ (fun _ => ?_))
      | exact ih0 _ _ _ _ _
      | exact ih1 _ _ _ _ _
      | exact ih2 _ _ _ _ _
      | exact LeO.none _
      | refine LeO.ite ?_ ?_
      | refine LeO.bind ?_ (fun _ => ?_)
    · intro y0 y1 y2 y3 y4
      unfold spec_l7Ok.l1
      repeat' first
      | (with_reducible exact ih0 _ _ _ _ _)
      | (with_reducible exact ih1 _ _ _ _ _)
      | (with_reducible exact ih2 _ _ _ _ _)
      | (with_reducible exact LeO.refl _)
      | (with_reducible exact LeO.none _)
      | (with_reducible refine LeO.ite ?_ ?_)
      | (with_reducible refine LeO.bind ?_ (fun _ => ?_))
      | exact ih0 _ _ _ _ _
      | exact ih1 _ _ _ _ _
      | exact ih2 _ _ _ _ _
      | exact LeO.none _
      | refine LeO.ite ?_ ?_
      | refine LeO.bind ?_ (fun _ => ?_)
theorem spec_l7Ok.mono : ∀ a0 a1 a2 a3 k, LeO (spec_l7Ok.f k a0 a1 a2 a3) (spec_l7Ok.f (k + 1) a0 a1 a2 a3) := by
  intro a0 a1 a2 a3 k
  obtain ⟨ih0, ih1, ih2⟩ := spec_l7Ok.mono_l k
  unfold spec_l7Ok.f
  repeat' first
      | (with_reducible exact ih0 _ _ _ _ _)
      | (with_reducible exact ih1 _ _ _ _ _)
      | (with_reducible exact ih2 _ _ _ _ _)
      | (with_reducible exact LeO.refl _)
      | (with_reducible exact LeO.none _)
      | (with_reducible refine LeO.ite ?_ ?_)
      | (with_reducible refine LeO.bind ?_ (fun _ => ?_))
      | exact ih0 _ _ _ _ _
      | exact ih1 _ _ _ _ _
      | exact ih2 _ _ _ _ _
      | exact LeO.none _
      | refine LeO.ite ?_ ?_
      | refine LeO.bind ?_ (fun _ => ?_)
set_option maxHeartbeats 8000000 in
set_option maxRecDepth 100000 in
theorem spec_l7Ok.calls (k : Nat) (A0_0 : Option Addr) (c0_0 : Nat) (l0_0 : List ByteArray) (A0_1 : Option Addr) (c0_1 : Nat) (l0_1 : List (S70)) (a0_2 : Int) (a0_3 : Int) (r : Bool) (w : World) (hr0_0 : Kd.C Kd.string w A0_0 l0_0.length l0_0) (hc0_0 : l0_0.length ≤ c0_0) (hr0_1 : Kd.C k70 w A0_1 l0_1.length l0_1) (hc0_1 : l0_1.length ≤ c0_1) (h : spec_l7Ok.f k l0_0 l0_1 a0_2 a0_3 = some r) :
    Calls Try.prog 37 #[.agg #[.slice A0_0 l0_0.length c0_0, .slice A0_1 l0_1.length c0_1, .int .i64 a0_2, .int .i64 a0_3]] w fun e w' => e = .returned (.bool r) ∧ Below w.heap.size w w' := by
  have hu26 := Try.underlying26
  have hu70 := Try.underlying70
  have HR0_0 := Aside0.mk hr0_0
  have HC0_0 := Aside0.mk hc0_0
  clear hr0_0 hc0_0
  have HR0_1 := Aside0.mk hr0_1
  have HC0_1 := Aside0.mk hc0_1
  clear hr0_1 hc0_1
  have HB := Aside0.mk (Below.refl w.heap.size w)
  have H : (if (l0_0.length : Int) = 42 then (if (l0_1.length : Int) > 100 then (spec_l7Ok.j0 k true l0_0 l0_1 a0_2 a0_3) else (if a0_2 < (-1) then (spec_l7Ok.j0 k true l0_0 l0_1 a0_2 a0_3) else (spec_l7Ok.j0 k (decide (a0_3 < (-1))) l0_0 l0_1 a0_2 a0_3))) else (spec_l7Ok.j0 k true l0_0 l0_1 a0_2 a0_3)) = some r := h
  clear h
  have HC2 := Aside0.mk H
  clear H
  go_enter Try.func37, Try.ntmps37
  go_upto_region 1 with (first | ((with_reducible refine qX (N := 1) rfl ?_); refine qW ?hg (N := 1) ?hd (cs := #[.slice A0_0 l0_0.length c0_0, .slice A0_1 l0_1.length c0_1, .int .i64 a0_2, .int .i64 a0_3]) (t := 26) ?hr ?_; (case hd => rfl); (case hg => rfl); (case hr => first | (go_simp; done) | (go_simp; rfl)); intro gb114 hg w3 hbox hb; have n0_ := Aside0.mk (qO (by repeat (first | (with_reducible first | exact HB.out | apply qH | apply qA | apply qG) | exact HB.out)) hb); have n1_ := Aside0.mk (hbox); have n2_ := Aside0.mk ((by rw [hg]; exact (qM (by repeat (first | (with_reducible first | exact HB.out | apply qH | apply qA | apply qG) | exact HB.out))) : w.heap.size ≤ gb114)); have n3_ := Aside0.mk ((by rw [hg]; exact (qM (by repeat (first | (with_reducible first | exact HB.out | apply qH | apply qA | apply qG) | exact HB.out))) : w.heap.size ≤ gb114)); clear HB; have HB := n0_; have BK114 := n1_; have GW114 := n2_; have GE114 := n3_; clear n0_ n1_ n2_ n3_; clear hb hbox hg))
  (try simp only [Act.put, List.setIfInBounds_toArray, List.set_cons_zero, List.set_cons_succ])
  go_cut [24] (fun v24 wc => ∃ (kq : Nat) (x24_1 : Bool), v24 = .bool x24_1 ∧ Aside0 (spec_l7Ok.j0 kq x24_1 l0_0 l0_1 a0_2 a0_3 = some r) ∧ Aside0 (kq ≤ k) ∧ Aside0 (wc.heap[gb114]? = some (.cells #[(.slice A0_0 l0_0.length c0_0), (.slice A0_1 l0_1.length c0_1), .int .i64 a0_2, .int .i64 a0_3] 26 (0, 0))) ∧ Aside0 (Below w.heap.size w wc))
  case first =>
    have H := HC2.out
    clear HC2
    by_cases c4 : (l0_0.length : Int) = 42
    · rw [if_pos c4] at H
      have c4b0 : ((l0_0.length : Int) == 42) = true := beq_iff_eq.mpr c4
      have c4b1 : ((l0_0.length : Int) != 42) = false := bne_eq_false_iff_eq.mpr c4
      clear c4
      (first | rw [c4b0] | (simp only [i64_w, i32_w]; rw [c4b0]) | skip)
      by_cases c5 : (l0_1.length : Int) > 100
      · rw [if_pos c5] at H
        have c5b0 : decide (100 < (l0_1.length : Int)) = true := decide_eq_true c5
        have c5b1 : decide (100 < l0_1.length) = true := decide_eq_true (by omega)
        clear c5
        have H' := Aside0.mk H
        clear H
        have hcz6_0 : w3.cell? ⟨gb114, 0, none⟩ = some (.slice A0_0 l0_0.length c0_0) := (qC BK114.out 0).trans rfl
        have hcz6_1 : w3.cell? ⟨gb114, 1, none⟩ = some (.slice A0_1 l0_1.length c0_1) := (qC BK114.out 1).trans rfl
        have hcz6_2 : w3.cell? ⟨gb114, 2, none⟩ = some (.int .i64 a0_2) := (qC BK114.out 2).trans rfl
        have hcz6_3 : w3.cell? ⟨gb114, 3, none⟩ = some (.int .i64 a0_3) := (qC BK114.out 3).trans rfl
        have hfz6_0 := qB BK114.out 0
        have hfz6_1 := qB BK114.out 1
        have hfz6_2 := qB BK114.out 2
        have hfz6_3 := qB BK114.out 3
        go_wp2
        go_meet
        case rel => exact ⟨_, (true), (by first | rfl | (simp; done) | (simp [*]; done)), H', ⟨by first | omega | exact Nat.le_refl _⟩, ⟨by (with_reducible repeat (first | refine qE ?_ _ | refine qI ?_ | refine qD ?_ _)); exact BK114.out⟩, ⟨by repeat (first | (with_reducible first | exact HB.out | apply qH | apply qA | apply qG | refine qF ?_ GE114.out) | exact HB.out)⟩⟩
      · rw [if_neg c5] at H
        have c5b0 : decide (100 < (l0_1.length : Int)) = false := decide_eq_false c5
        have c5b1 : decide (100 < l0_1.length) = false := decide_eq_false (by omega)
        clear c5
        by_cases c7 : a0_2 < (-1)
        · rw [if_pos c7] at H
          have c7b0 : decide (a0_2 < (-1)) = true := decide_eq_true c7
          clear c7
          have H' := Aside0.mk H
          clear H
          have hcz8_0 : w3.cell? ⟨gb114, 0, none⟩ = some (.slice A0_0 l0_0.length c0_0) := (qC BK114.out 0).trans rfl
          have hcz8_1 : w3.cell? ⟨gb114, 1, none⟩ = some (.slice A0_1 l0_1.length c0_1) := (qC BK114.out 1).trans rfl
          have hcz8_2 : w3.cell? ⟨gb114, 2, none⟩ = some (.int .i64 a0_2) := (qC BK114.out 2).trans rfl
          have hcz8_3 : w3.cell? ⟨gb114, 3, none⟩ = some (.int .i64 a0_3) := (qC BK114.out 3).trans rfl
          have hfz8_0 := qB BK114.out 0
          have hfz8_1 := qB BK114.out 1
          have hfz8_2 := qB BK114.out 2
          have hfz8_3 := qB BK114.out 3
          go_wp2
          go_meet
          case rel => exact ⟨_, (true), (by first | rfl | (simp; done) | (simp [*]; done)), H', ⟨by first | omega | exact Nat.le_refl _⟩, ⟨by (with_reducible repeat (first | refine qE ?_ _ | refine qI ?_ | refine qD ?_ _)); exact BK114.out⟩, ⟨by repeat (first | (with_reducible first | exact HB.out | apply qH | apply qA | apply qG | refine qF ?_ GE114.out) | exact HB.out)⟩⟩
        · rw [if_neg c7] at H
          have c7b0 : decide (a0_2 < (-1)) = false := decide_eq_false c7
          clear c7
          have H' := Aside0.mk H
          clear H
          have hcz9_0 : w3.cell? ⟨gb114, 0, none⟩ = some (.slice A0_0 l0_0.length c0_0) := (qC BK114.out 0).trans rfl
          have hcz9_1 : w3.cell? ⟨gb114, 1, none⟩ = some (.slice A0_1 l0_1.length c0_1) := (qC BK114.out 1).trans rfl
          have hcz9_2 : w3.cell? ⟨gb114, 2, none⟩ = some (.int .i64 a0_2) := (qC BK114.out 2).trans rfl
          have hcz9_3 : w3.cell? ⟨gb114, 3, none⟩ = some (.int .i64 a0_3) := (qC BK114.out 3).trans rfl
          have hfz9_0 := qB BK114.out 0
          have hfz9_1 := qB BK114.out 1
          have hfz9_2 := qB BK114.out 2
          have hfz9_3 := qB BK114.out 3
          go_wp2
          go_meet
          case rel => exact ⟨_, (decide (a0_3 < (-1))), (by first | rfl | (simp; done) | (simp [*]; done)), H', ⟨by first | omega | exact Nat.le_refl _⟩, ⟨by (with_reducible repeat (first | refine qE ?_ _ | refine qI ?_ | refine qD ?_ _)); exact BK114.out⟩, ⟨by repeat (first | (with_reducible first | exact HB.out | apply qH | apply qA | apply qG | refine qF ?_ GE114.out) | exact HB.out)⟩⟩
    · rw [if_neg c4] at H
      have c4b0 : ((l0_0.length : Int) == 42) = false := beq_eq_false_iff_ne.mpr c4
      have c4b1 : ((l0_0.length : Int) != 42) = true := bne_iff_ne.mpr c4
      (first | rw [c4b0] | (simp only [i64_w, i32_w]; rw [c4b0]) | skip)
      have H' := Aside0.mk H
      clear H
      have hcz10_0 : w3.cell? ⟨gb114, 0, none⟩ = some (.slice A0_0 l0_0.length c0_0) := (qC BK114.out 0).trans rfl
      have hcz10_1 : w3.cell? ⟨gb114, 1, none⟩ = some (.slice A0_1 l0_1.length c0_1) := (qC BK114.out 1).trans rfl
      have hcz10_2 : w3.cell? ⟨gb114, 2, none⟩ = some (.int .i64 a0_2) := (qC BK114.out 2).trans rfl
      have hcz10_3 : w3.cell? ⟨gb114, 3, none⟩ = some (.int .i64 a0_3) := (qC BK114.out 3).trans rfl
      have hfz10_0 := qB BK114.out 0
      have hfz10_1 := qB BK114.out 1
      have hfz10_2 := qB BK114.out 2
      have hfz10_3 := qB BK114.out 3
      go_wp2
      go_meet
      case rel => exact ⟨_, (true), (by first | rfl | (simp; done) | (simp [*]; done)), H', ⟨by first | omega | exact Nat.le_refl _⟩, ⟨by (with_reducible repeat (first | refine qE ?_ _ | refine qI ?_ | refine qD ?_ _)); exact BK114.out⟩, ⟨by repeat (first | (with_reducible first | exact HB.out | apply qH | apply qA | apply qG | refine qF ?_ GE114.out) | exact HB.out)⟩⟩
  case rest =>
    clear HC2
    try clear p2
    try clear c3
    try clear c4
    try clear c4b0
    try clear c4b1
    try clear c5
    try clear c5b0
    try clear c5b1
    try clear c7
    try clear c7b0
    try clear hcz10_0
    try clear hcz10_1
    try clear hcz10_2
    try clear hcz10_3
    try clear hcz6_0
    try clear hcz6_1
    try clear hcz6_2
    try clear hcz6_3
    try clear hcz8_0
    try clear hcz8_1
    try clear hcz8_2
    try clear hcz8_3
    try clear hcz9_0
    try clear hcz9_1
    try clear hcz9_2
    try clear hcz9_3
    try clear hfz10_0
    try clear hfz10_1
    try clear hfz10_2
    try clear hfz10_3
    try clear hfz6_0
    try clear hfz6_1
    try clear hfz6_2
    try clear hfz6_3
    try clear hfz8_0
    try clear hfz8_1
    try clear hfz8_2
    try clear hfz8_3
    try clear hfz9_0
    try clear hfz9_1
    try clear hfz9_2
    try clear hfz9_3
    obtain ⟨kq, x24_1, rfl, HA, HJ1, BK114, HB⟩ := hcut
    cases kq with
    | zero => exact absurd HA.out (by simp [spec_l7Ok.j0])
    | succ kj1 =>
      have H := HA.out
      clear HA
      simp only [spec_l7Ok.j0] at H
      by_cases c11 : x24_1 = true
      · subst c11
        have H1 : (some false) = some r := by rw [if_pos rfl] at H; exact H
        clear H
        have H := H1
        clear H1
        obtain rfl := Option.some.inj H
        go_wp2
        go_ret
        exact ⟨by first | rfl | (simp [errW_none, errW_some] <;> rfl) | (simp [*, errW_none, errW_some] <;> rfl), by repeat (first | (with_reducible first | exact HB.out | apply qH | apply qA | apply qG | refine qF ?_ GE114.out) | exact HB.out)⟩
      · replace c11 := Bool.eq_false_iff.mpr c11
        subst c11
        have H1 : (spec_l7Ok.l0 kj1 0 l0_0 l0_1 a0_2 a0_3) = some r := by rw [if_neg (show ¬ (false = true) by decide)] at H; exact H
        clear H
        have H := H1
        clear H1
        have H' := Aside0.mk H
        clear H
        go_wp2
        go_loopg [3] kj1 (fun kq v3 w' => ∃ (x3_2 : Int), v3 = .int .i64 x3_2 ∧ Aside0 (spec_l7Ok.l0 kq x3_2 l0_0 l0_1 a0_2 a0_3 = some r) ∧ Aside0 (kq ≤ kj1) ∧ Aside0 (w'.heap[gb114]? = some (.cells #[(.slice A0_0 l0_0.length c0_0), (.slice A0_1 l0_1.length c0_1), .int .i64 a0_2, .int .i64 a0_3] 26 (0, 0))) ∧ Aside0 (Below w.heap.size w w'))
        case atStart => exact ⟨(0), (by first | rfl | (simp; done) | (simp [*]; done)), H', ⟨Nat.le_refl _⟩, ⟨by (with_reducible repeat (first | refine qE ?_ _ | refine qI ?_ | refine qD ?_ _)); exact BK114.out⟩, ⟨by repeat (first | (with_reducible first | exact HB.out | apply qH | apply qA | apply qG | refine qF ?_ GE114.out) | exact HB.out)⟩⟩
        case round =>
          clear H'
          try clear c1
          try clear p2
          try clear c3
          try clear c4
          try clear c4b0
          try clear c4b1
          try clear c5
          try clear c5b0
          try clear c5b1
          try clear c7
          try clear c7b0
          try clear c11
          try clear hcz10_0
          try clear hcz10_1
          try clear hcz10_2
          try clear hcz10_3
          try clear hcz6_0
          try clear hcz6_1
          try clear hcz6_2
          try clear hcz6_3
          try clear hcz8_0
          try clear hcz8_1
          try clear hcz8_2
          try clear hcz8_3
          try clear hcz9_0
          try clear hcz9_1
          try clear hcz9_2
          try clear hcz9_3
          try clear hfz10_0
          try clear hfz10_1
          try clear hfz10_2
          try clear hfz10_3
          try clear hfz6_0
          try clear hfz6_1
          try clear hfz6_2
          try clear hfz6_3
          try clear hfz8_0
          try clear hfz8_1
          try clear hfz8_2
          try clear hfz8_3
          try clear hfz9_0
          try clear hfz9_1
          try clear hfz9_2
          try clear hfz9_3
          try clear p2
          obtain ⟨x3_2, rfl, HA, HK2, BK114, HB⟩ := hrel
          cases gk with
          | zero => exact absurd HA.out (by simp [spec_l7Ok.l0])
          | succ k2 =>
            have H := HA.out
            clear HA
            simp only [spec_l7Ok.l0] at H
            by_cases c12 : x3_2 < (l0_0.length : Int)
            · rw [if_pos c12] at H
              have c12b0 : decide (x3_2 < (l0_0.length : Int)) = true := decide_eq_true c12
              clear c12
              by_cases c13 : 0 ≤ x3_2
              · rw [if_pos c13] at H
                have c13b0 : decide (0 ≤ x3_2) = true := decide_eq_true c13
                clear c13
                by_cases c14 : ((rdOf ByteArray.empty l0_0 x3_2).size : Int) > 1200
                · rw [if_pos c14] at H
                  have c14b0 : decide (1200 < ((rdOf ByteArray.empty l0_0 x3_2).size : Int)) = true := decide_eq_true c14
                  have c14b1 : decide (1200 < (rdOf ByteArray.empty l0_0 x3_2).size) = true := decide_eq_true (by omega)
                  clear c14
                  obtain rfl := Option.some.inj H
                  have hcz15_0 : wr.cell? ⟨gb114, 0, none⟩ = some (.slice A0_0 l0_0.length c0_0) := (qC BK114.out 0).trans rfl
                  have hcz15_1 : wr.cell? ⟨gb114, 1, none⟩ = some (.slice A0_1 l0_1.length c0_1) := (qC BK114.out 1).trans rfl
                  have hcz15_2 : wr.cell? ⟨gb114, 2, none⟩ = some (.int .i64 a0_2) := (qC BK114.out 2).trans rfl
                  have hcz15_3 : wr.cell? ⟨gb114, 3, none⟩ = some (.int .i64 a0_3) := (qC BK114.out 3).trans rfl
                  have hfz15_0 := qB BK114.out 0
                  have hfz15_1 := qB BK114.out 1
                  have hfz15_2 := qB BK114.out 2
                  have hfz15_3 := qB BK114.out 3
                  have p115 : 0 ≤ (x3_2 : Int) := of_decide_eq_true (by first | (with_reducible assumption) | assumption)
                  have q115 : x3_2 < (l0_0.length : Int) := of_decide_eq_true (by first | (with_reducible assumption) | assumption)
                  obtain ⟨ad115, e115, hx115_0⟩ := Kd.zN HR0_0.out x3_2 p115 q115
                  cases e115
                  replace hx115_0 := (HB.out.cell (World.block_lt_of_cell? w _ hx115_0)).trans hx115_0
                  replace p115 := eq_true p115
                  replace q115 := eq_true q115
                  go_wp2
                  go_ret
                  exact ⟨by first | rfl | (simp [errW_none, errW_some] <;> rfl) | (simp [*, errW_none, errW_some] <;> rfl), by repeat (first | (with_reducible first | exact HB.out | apply qH | apply qA | apply qG | refine qF ?_ GE114.out) | exact HB.out)⟩
                · rw [if_neg c14] at H
                  have c14b0 : decide (1200 < ((rdOf ByteArray.empty l0_0 x3_2).size : Int)) = false := decide_eq_false c14
                  have c14b1 : decide (1200 < (rdOf ByteArray.empty l0_0 x3_2).size) = false := decide_eq_false (by omega)
                  clear c14
                  have H' := Aside0.mk H
                  clear H
                  have hcz16_0 : wr.cell? ⟨gb114, 0, none⟩ = some (.slice A0_0 l0_0.length c0_0) := (qC BK114.out 0).trans rfl
                  have hcz16_1 : wr.cell? ⟨gb114, 1, none⟩ = some (.slice A0_1 l0_1.length c0_1) := (qC BK114.out 1).trans rfl
                  have hcz16_2 : wr.cell? ⟨gb114, 2, none⟩ = some (.int .i64 a0_2) := (qC BK114.out 2).trans rfl
                  have hcz16_3 : wr.cell? ⟨gb114, 3, none⟩ = some (.int .i64 a0_3) := (qC BK114.out 3).trans rfl
                  have hfz16_0 := qB BK114.out 0
                  have hfz16_1 := qB BK114.out 1
                  have hfz16_2 := qB BK114.out 2
                  have hfz16_3 := qB BK114.out 3
                  have p115 : 0 ≤ (x3_2 : Int) := of_decide_eq_true (by first | (with_reducible assumption) | assumption)
                  have q115 : x3_2 < (l0_0.length : Int) := of_decide_eq_true (by first | (with_reducible assumption) | assumption)
                  obtain ⟨ad115, e115, hx115_0⟩ := Kd.zN HR0_0.out x3_2 p115 q115
                  cases e115
                  replace hx115_0 := (HB.out.cell (World.block_lt_of_cell? w _ hx115_0)).trans hx115_0
                  replace p115 := eq_true p115
                  replace q115 := eq_true q115
                  go_wp2
                  go_roundg k2
                  case measure => have := HJ1.out; have := HK2.out; omega
                  case rel => exact ⟨(wrap64 (x3_2 + 1)), (by first | rfl | (simp; done) | (simp [*]; done)), H', ⟨by have := HJ1.out; have := HK2.out; omega⟩, ⟨by (with_reducible repeat (first | refine qE ?_ _ | refine qI ?_ | refine qD ?_ _)); exact BK114.out⟩, ⟨by repeat (first | (with_reducible first | exact HB.out | apply qH | apply qA | apply qG | refine qF ?_ GE114.out) | exact HB.out)⟩⟩
              · rw [if_neg c13] at H
                exact absurd H (by simp)
            · rw [if_neg c12] at H
              have c12b0 : decide (x3_2 < (l0_0.length : Int)) = false := decide_eq_false c12
              clear c12
              have H' := Aside0.mk H
              clear H
              have hcz17_0 : wr.cell? ⟨gb114, 0, none⟩ = some (.slice A0_0 l0_0.length c0_0) := (qC BK114.out 0).trans rfl
              have hcz17_1 : wr.cell? ⟨gb114, 1, none⟩ = some (.slice A0_1 l0_1.length c0_1) := (qC BK114.out 1).trans rfl
              have hcz17_2 : wr.cell? ⟨gb114, 2, none⟩ = some (.int .i64 a0_2) := (qC BK114.out 2).trans rfl
              have hcz17_3 : wr.cell? ⟨gb114, 3, none⟩ = some (.int .i64 a0_3) := (qC BK114.out 3).trans rfl
              have hfz17_0 := qB BK114.out 0
              have hfz17_1 := qB BK114.out 1
              have hfz17_2 := qB BK114.out 2
              have hfz17_3 := qB BK114.out 3
              go_wp2
              go_loopg [4] k2 (fun kq v4 w' => ∃ (x4_3 : Int), v4 = .int .i64 x4_3 ∧ Aside0 (spec_l7Ok.l1 kq x4_3 l0_0 l0_1 a0_2 a0_3 = some r) ∧ Aside0 (kq ≤ k2) ∧ Aside0 (w'.heap[gb114]? = some (.cells #[(.slice A0_0 l0_0.length c0_0), (.slice A0_1 l0_1.length c0_1), .int .i64 a0_2, .int .i64 a0_3] 26 (0, 0))) ∧ Aside0 (Below w.heap.size w w'))
              case atStart => exact ⟨(0), (by first | rfl | (simp; done) | (simp [*]; done)), H', ⟨Nat.le_refl _⟩, ⟨by (with_reducible repeat (first | refine qE ?_ _ | refine qI ?_ | refine qD ?_ _)); exact BK114.out⟩, ⟨by repeat (first | (with_reducible first | exact HB.out | apply qH | apply qA | apply qG | refine qF ?_ GE114.out) | exact HB.out)⟩⟩
              case round =>
                clear H'
                try clear c1
                try clear p1
                try clear q1
                try clear hx1
                try clear p2
                try clear c3
                try clear c4
                try clear c4b0
                try clear c4b1
                try clear c5
                try clear c5b0
                try clear c5b1
                try clear p6
                try clear c7
                try clear c7b0
                try clear c11
                try clear p11
                try clear q11
                try clear hx11
                try clear c12
                try clear c12b0
                try clear c13
                try clear c13b0
                try clear c14
                try clear c14b0
                try clear c14b1
                try clear hcz10_0
                try clear hcz10_1
                try clear hcz10_2
                try clear hcz10_3
                try clear hcz15_0
                try clear hcz15_1
                try clear hcz15_2
                try clear hcz15_3
                try clear hcz16_0
                try clear hcz16_1
                try clear hcz16_2
                try clear hcz16_3
                try clear hcz17_0
                try clear hcz17_1
                try clear hcz17_2
                try clear hcz17_3
                try clear hcz6_0
                try clear hcz6_1
                try clear hcz6_2
                try clear hcz6_3
                try clear hcz8_0
                try clear hcz8_1
                try clear hcz8_2
                try clear hcz8_3
                try clear hcz9_0
                try clear hcz9_1
                try clear hcz9_2
                try clear hcz9_3
                try clear hfz10_0
                try clear hfz10_1
                try clear hfz10_2
                try clear hfz10_3
                try clear hfz15_0
                try clear hfz15_1
                try clear hfz15_2
                try clear hfz15_3
                try clear hfz16_0
                try clear hfz16_1
                try clear hfz16_2
                try clear hfz16_3
                try clear hfz17_0
                try clear hfz17_1
                try clear hfz17_2
                try clear hfz17_3
                try clear hfz6_0
                try clear hfz6_1
                try clear hfz6_2
                try clear hfz6_3
                try clear hfz8_0
                try clear hfz8_1
                try clear hfz8_2
                try clear hfz8_3
                try clear hfz9_0
                try clear hfz9_1
                try clear hfz9_2
                try clear hfz9_3
                try clear hx115_0
                try clear p115
                try clear p2
                try clear q115
                obtain ⟨x4_3, rfl, HA, HK3, BK114, HB⟩ := hrel
                cases gk with
                | zero => exact absurd HA.out (by simp [spec_l7Ok.l1])
                | succ k3 =>
                  have H := HA.out
                  clear HA
                  simp only [spec_l7Ok.l1] at H
                  by_cases c18 : x4_3 < (l0_1.length : Int)
                  · rw [if_pos c18] at H
                    have c18b0 : decide (x4_3 < (l0_1.length : Int)) = true := decide_eq_true c18
                    clear c18
                    by_cases c19 : 0 ≤ x4_3
                    · rw [if_pos c19] at H
                      have c19b0 : decide (0 ≤ x4_3) = true := decide_eq_true c19
                      clear c19
                      replace H := Option.bind_eq_some_iff.mp H
                      obtain ⟨t117, A200, H⟩ := H
                      replace H : (if t117 = true then (spec_l7Ok.l1 k3 (wrap64 (x4_3 + 1)) l0_0 l0_1 a0_2 a0_3) else (some false)) = some r := H
                      have A20 := Aside0.mk A200
                      clear A200
                      by_cases c21 : t117 = true
                      · subst c21
                        have H1 : (spec_l7Ok.l1 k3 (wrap64 (x4_3 + 1)) l0_0 l0_1 a0_2 a0_3) = some r := by rw [if_pos rfl] at H; exact H
                        clear H
                        have H := H1
                        clear H1
                        have H' := Aside0.mk H
                        clear H
                        have hcz22_0 : wr.cell? ⟨gb114, 0, none⟩ = some (.slice A0_0 l0_0.length c0_0) := (qC BK114.out 0).trans rfl
                        have hcz22_1 : wr.cell? ⟨gb114, 1, none⟩ = some (.slice A0_1 l0_1.length c0_1) := (qC BK114.out 1).trans rfl
                        have hcz22_2 : wr.cell? ⟨gb114, 2, none⟩ = some (.int .i64 a0_2) := (qC BK114.out 2).trans rfl
                        have hcz22_3 : wr.cell? ⟨gb114, 3, none⟩ = some (.int .i64 a0_3) := (qC BK114.out 3).trans rfl
                        have hfz22_0 := qB BK114.out 0
                        have hfz22_1 := qB BK114.out 1
                        have hfz22_2 := qB BK114.out 2
                        have hfz22_3 := qB BK114.out 3
                        have p116 : 0 ≤ (x4_3 : Int) := of_decide_eq_true (by first | (with_reducible assumption) | assumption)
                        have q116 : x4_3 < (l0_1.length : Int) := of_decide_eq_true (by first | (with_reducible assumption) | assumption)
                        obtain ⟨ad116, e116, hx116_0, hx116_1⟩ := at_T70 HR0_1.out x4_3 p116 q116
                        cases e116
                        replace hx116_0 := (HB.out.cell (World.block_lt_of_cell? w _ hx116_0)).trans hx116_0
                        replace hx116_1 := (HB.out.cell (World.block_lt_of_cell? w _ hx116_1)).trans hx116_1
                        replace p116 := eq_true p116
                        replace q116 := eq_true q116
                        go_wp2_with (first | ((with_reducible refine qT (f := 67) rfl ?_); refine zD (some 51) rfl rfl Try.func67 (by kernel_rfl) rfl #[.agg #[.int .i64 ((rd_T70 l0_1 x4_3).f0), .string ((rd_T70 l0_1 x4_3).f1)]] rfl (by (try simp only [List.map_toArray, List.map_cons, List.map_nil]); first | done | rfl | (simp only [List.length_drop, List.length_take]; rfl)) ?_; (with_reducible refine (spec_l7Wait.calls ((rd_T70 l0_1 x4_3).f0) ((rd_T70 l0_1 x4_3).f1) true _ A20.out).mono ?_); rintro e w23 ⟨rfl, hb⟩; refine ⟨_, rfl, ?_⟩; have n0_ := Aside0.mk (qL (g := gb114) (o := .cells #[.slice A0_0 l0_0.length c0_0, .slice (some ad116) l0_1.length c0_1, .int .i64 a0_2, .int .i64 a0_3] 26 (0, 0)) (by (with_reducible repeat (first | refine qE ?_ _ | refine qI ?_ | refine qD ?_ _)); exact BK114.out) hb); have n1_ := Aside0.mk (qO (by repeat (first | (with_reducible first | exact HB.out | apply qH | apply qA | apply qG | refine qF ?_ GE114.out) | exact HB.out)) hb); clear BK114; clear HB; have BK114 := n0_; have HB := n1_; clear n0_ n1_; (try clear hb); (try clear hb2); (try clear hk); (try clear hi)))
                        go_roundg k3
                        case measure => have := HJ1.out; have := HK2.out; have := HK3.out; omega
                        case rel => exact ⟨(wrap64 (x4_3 + 1)), (by first | rfl | (simp; done) | (simp [*]; done)), H', ⟨by have := HJ1.out; have := HK2.out; have := HK3.out; omega⟩, ⟨by (with_reducible repeat (first | refine qE ?_ _ | refine qI ?_ | refine qD ?_ _)); exact BK114.out⟩, ⟨by repeat (first | (with_reducible first | exact HB.out | apply qH | apply qA | apply qG | refine qF ?_ GE114.out) | exact HB.out)⟩⟩
                      · replace c21 := Bool.eq_false_iff.mpr c21
                        subst c21
                        have H1 : (some false) = some r := by rw [if_neg (show ¬ (false = true) by decide)] at H; exact H
                        clear H
                        have H := H1
                        clear H1
                        obtain rfl := Option.some.inj H
                        have hcz24_0 : wr.cell? ⟨gb114, 0, none⟩ = some (.slice A0_0 l0_0.length c0_0) := (qC BK114.out 0).trans rfl
                        have hcz24_1 : wr.cell? ⟨gb114, 1, none⟩ = some (.slice A0_1 l0_1.length c0_1) := (qC BK114.out 1).trans rfl
                        have hcz24_2 : wr.cell? ⟨gb114, 2, none⟩ = some (.int .i64 a0_2) := (qC BK114.out 2).trans rfl
                        have hcz24_3 : wr.cell? ⟨gb114, 3, none⟩ = some (.int .i64 a0_3) := (qC BK114.out 3).trans rfl
                        have hfz24_0 := qB BK114.out 0
                        have hfz24_1 := qB BK114.out 1
                        have hfz24_2 := qB BK114.out 2
                        have hfz24_3 := qB BK114.out 3
                        have p116 : 0 ≤ (x4_3 : Int) := of_decide_eq_true (by first | (with_reducible assumption) | assumption)
                        have q116 : x4_3 < (l0_1.length : Int) := of_decide_eq_true (by first | (with_reducible assumption) | assumption)
                        obtain ⟨ad116, e116, hx116_0, hx116_1⟩ := at_T70 HR0_1.out x4_3 p116 q116
                        cases e116
                        replace hx116_0 := (HB.out.cell (World.block_lt_of_cell? w _ hx116_0)).trans hx116_0
                        replace hx116_1 := (HB.out.cell (World.block_lt_of_cell? w _ hx116_1)).trans hx116_1
                        replace p116 := eq_true p116
                        replace q116 := eq_true q116
                        go_wp2_with (first | ((with_reducible refine qT (f := 67) rfl ?_); refine zD (some 51) rfl rfl Try.func67 (by kernel_rfl) rfl #[.agg #[.int .i64 ((rd_T70 l0_1 x4_3).f0), .string ((rd_T70 l0_1 x4_3).f1)]] rfl (by (try simp only [List.map_toArray, List.map_cons, List.map_nil]); first | done | rfl | (simp only [List.length_drop, List.length_take]; rfl)) ?_; (with_reducible refine (spec_l7Wait.calls ((rd_T70 l0_1 x4_3).f0) ((rd_T70 l0_1 x4_3).f1) false _ A20.out).mono ?_); rintro e w25 ⟨rfl, hb⟩; refine ⟨_, rfl, ?_⟩; have n0_ := Aside0.mk (qL (g := gb114) (o := .cells #[.slice A0_0 l0_0.length c0_0, .slice (some ad116) l0_1.length c0_1, .int .i64 a0_2, .int .i64 a0_3] 26 (0, 0)) (by (with_reducible repeat (first | refine qE ?_ _ | refine qI ?_ | refine qD ?_ _)); exact BK114.out) hb); have n1_ := Aside0.mk (qO (by repeat (first | (with_reducible first | exact HB.out | apply qH | apply qA | apply qG | refine qF ?_ GE114.out) | exact HB.out)) hb); clear BK114; clear HB; have BK114 := n0_; have HB := n1_; clear n0_ n1_; (try clear hb); (try clear hb2); (try clear hk); (try clear hi)))
                        go_ret
                        exact ⟨by first | rfl | (simp [errW_none, errW_some] <;> rfl) | (simp [*, errW_none, errW_some] <;> rfl), by repeat (first | (with_reducible first | exact HB.out | apply qH | apply qA | apply qG | refine qF ?_ GE114.out) | exact HB.out)⟩
                    · rw [if_neg c19] at H
                      exact absurd H (by simp)
                  · rw [if_neg c18] at H
                    have c18b0 : decide (x4_3 < (l0_1.length : Int)) = false := decide_eq_false c18
                    clear c18
                    obtain rfl := Option.some.inj H
                    have hcz26_0 : wr.cell? ⟨gb114, 0, none⟩ = some (.slice A0_0 l0_0.length c0_0) := (qC BK114.out 0).trans rfl
                    have hcz26_1 : wr.cell? ⟨gb114, 1, none⟩ = some (.slice A0_1 l0_1.length c0_1) := (qC BK114.out 1).trans rfl
                    have hcz26_2 : wr.cell? ⟨gb114, 2, none⟩ = some (.int .i64 a0_2) := (qC BK114.out 2).trans rfl
                    have hcz26_3 : wr.cell? ⟨gb114, 3, none⟩ = some (.int .i64 a0_3) := (qC BK114.out 3).trans rfl
                    have hfz26_0 := qB BK114.out 0
                    have hfz26_1 := qB BK114.out 1
                    have hfz26_2 := qB BK114.out 2
                    have hfz26_3 := qB BK114.out 3
                    go_wp2
                    go_ret
                    exact ⟨by first | rfl | (simp [errW_none, errW_some] <;> rfl) | (simp [*, errW_none, errW_some] <;> rfl), by repeat (first | (with_reducible first | exact HB.out | apply qH | apply qA | apply qG | refine qF ?_ GE114.out) | exact HB.out)⟩

/-! ### spec_l7Copy: function 38 -/
def spec_l7Copy.f (l0_0 : List ByteArray) (l0_1 : List (S70)) (a0_2 : Int) (a0_3 : Int) : Option (List ByteArray × (List (S70)) × Int × Int) := (some (([] : List ByteArray) : List ByteArray)).bind fun y121 => (if y121.length + l0_0.length < 8796093022208 then ((some (([] : List (S70)) : List (S70))).bind fun y127 => (if y127.length + l0_1.length < 5864062014805 then (some ((y121 ++ l0_0), (y127 ++ l0_1), a0_2, a0_3)) else (none))) else (none))
set_option maxHeartbeats 8000000 in
set_option maxRecDepth 100000 in
theorem spec_l7Copy.calls (A0_0 : Option Addr) (c0_0 : Nat) (l0_0 : List ByteArray) (A0_1 : Option Addr) (c0_1 : Nat) (l0_1 : List (S70)) (a0_2 : Int) (a0_3 : Int) (r1 : List ByteArray) (r2 : List (S70)) (r3 : Int) (r4 : Int) (w : World) (hr0_0 : Kd.C Kd.string w A0_0 l0_0.length l0_0) (hc0_0 : l0_0.length ≤ c0_0) (hr0_1 : Kd.C k70 w A0_1 l0_1.length l0_1) (hc0_1 : l0_1.length ≤ c0_1) (h : spec_l7Copy.f l0_0 l0_1 a0_2 a0_3 = some (r1, r2, r3, r4)) :
    Calls Try.prog 38 #[.agg #[.slice A0_0 l0_0.length c0_0, .slice A0_1 l0_1.length c0_1, .int .i64 a0_2, .int .i64 a0_3]] w fun e w' => ∃ v0_ v1_ : Value, e = .returned (.agg #[v0_, v1_, .int .i64 r3, .int .i64 r4]) ∧ Kd.R Kd.string 9 w' w.heap.size (fun _ => True) v0_ r1 ∧ Kd.R k70 70 w' w.heap.size (fun _ => True) v1_ r2 ∧ Below w.heap.size w w' := by
  have hu26 := Try.underlying26
  have HR0_0 := Aside0.mk hr0_0
  have HC0_0 := Aside0.mk hc0_0
  clear hr0_0 hc0_0
  have HR0_1 := Aside0.mk hr0_1
  have HC0_1 := Aside0.mk hc0_1
  clear hr0_1 hc0_1
  have HB := Aside0.mk (Below.refl w.heap.size w)
  have H : ((some (([] : List ByteArray) : List ByteArray)).bind fun y121 => (if y121.length + l0_0.length < 8796093022208 then ((some (([] : List (S70)) : List (S70))).bind fun y127 => (if y127.length + l0_1.length < 5864062014805 then (some ((y121 ++ l0_0), (y127 ++ l0_1), a0_2, a0_3)) else (none))) else (none))) = some (r1, r2, r3, r4) := h
  clear h
  obtain ⟨y121, hy121⟩ : ∃ y_ : List ByteArray, y_ = (([] : List ByteArray)) := ⟨_, rfl⟩
  replace H : (if y121.length + l0_0.length < 8796093022208 then ((some (([] : List (S70)) : List (S70))).bind fun y127 => (if y127.length + l0_1.length < 5864062014805 then (some ((y121 ++ l0_0), (y127 ++ l0_1), a0_2, a0_3)) else (none))) else (none)) = some (r1, r2, r3, r4) := by first | (rw [hy121]; with_reducible exact H) | (have H2_ := (Option.bind_some _ _).symm.trans H; rw [hy121]; with_reducible exact H2_) | (have H2_ := (Option.bind_some _ _).symm.trans H; with_reducible exact H2_) | with_reducible exact H | (rw [hy121]; exact H) | exact H
  have Ny121 := Aside0.mk hy121
  clear hy121
  by_cases c2 : y121.length + l0_0.length < 8796093022208
  · rw [if_pos c2] at H
    have LMc2 := Aside0.mk c2
    clear c2
    obtain ⟨y124, hy124⟩ : ∃ y_ : List ByteArray, y_ = (y121 ++ l0_0) := ⟨_, rfl⟩
    replace H : ((some (([] : List (S70)) : List (S70))).bind fun y127 => (if y127.length + l0_1.length < 5864062014805 then (some (y124, (y127 ++ l0_1), a0_2, a0_3)) else (none))) = some (r1, r2, r3, r4) := by first | (rw [hy124]; with_reducible exact H) | (have H2_ := (Option.bind_some _ _).symm.trans H; rw [hy124]; with_reducible exact H2_) | (have H2_ := (Option.bind_some _ _).symm.trans H; with_reducible exact H2_) | with_reducible exact H | (rw [hy124]; exact H) | exact H
    have Ny124 := Aside0.mk hy124
    clear hy124
    obtain ⟨y127, hy127⟩ : ∃ y_ : List (S70), y_ = (([] : List (S70))) := ⟨_, rfl⟩
    replace H : (if y127.length + l0_1.length < 5864062014805 then (some (y124, (y127 ++ l0_1), a0_2, a0_3)) else (none)) = some (r1, r2, r3, r4) := by first | (rw [hy127]; with_reducible exact H) | (have H2_ := (Option.bind_some _ _).symm.trans H; rw [hy127]; with_reducible exact H2_) | (have H2_ := (Option.bind_some _ _).symm.trans H; with_reducible exact H2_) | with_reducible exact H | (rw [hy127]; exact H) | exact H
    have Ny127 := Aside0.mk hy127
    clear hy127
    by_cases c3 : y127.length + l0_1.length < 5864062014805
    · rw [if_pos c3] at H
      have LMc3 := Aside0.mk c3
      clear c3
      obtain ⟨y130, hy130⟩ : ∃ y_ : List (S70), y_ = (y127 ++ l0_1) := ⟨_, rfl⟩
      replace H : (some (y124, y130, a0_2, a0_3)) = some (r1, r2, r3, r4) := by first | (rw [hy130]; with_reducible exact H) | (have H2_ := (Option.bind_some _ _).symm.trans H; rw [hy130]; with_reducible exact H2_) | (have H2_ := (Option.bind_some _ _).symm.trans H; with_reducible exact H2_) | with_reducible exact H | (rw [hy130]; exact H) | exact H
      have Ny130 := Aside0.mk hy130
      clear hy130
      simp only [Option.some.injEq, Prod.mk.injEq] at H
      obtain ⟨rfl, rfl, rfl, rfl⟩ := H
      go_enter Try.func38, Try.ntmps38
      go_wp2_with (first | ((with_reducible refine qX (N := 1) rfl ?_); refine qW ?hg (N := 1) ?hd (cs := #[.slice A0_0 l0_0.length c0_0, .slice A0_1 l0_1.length c0_1, .int .i64 a0_2, .int .i64 a0_3]) (t := 26) ?hr ?_; (case hd => rfl); (case hg => rfl); (case hr => first | (go_simp; done) | (go_simp; rfl)); intro gb118 hg w4 hbox hb; have n0_ := Aside0.mk (qO (by repeat (first | (with_reducible first | exact HB.out | apply qH | apply qA | apply qG) | exact HB.out)) hb); have n1_ := Aside0.mk (hbox); have n2_ := Aside0.mk ((by rw [hg]; exact (qM (by repeat (first | (with_reducible first | exact HB.out | apply qH | apply qA | apply qG) | exact HB.out))) : w.heap.size ≤ gb118)); have n3_ := Aside0.mk ((by rw [hg]; exact (qM (by repeat (first | (with_reducible first | exact HB.out | apply qH | apply qA | apply qG) | exact HB.out))) : w.heap.size ≤ gb118)); clear HB; have HB := n0_; have BK118 := n1_; have GW118 := n2_; have GE118 := n3_; clear n0_ n1_ n2_ n3_; clear hb hbox hg) | ((with_reducible refine qX (N := 2) rfl ?_); refine qW ?hg (N := 2) ?hd (cs := #[.slice none 0 0, .slice none 0 0, .int .i64 0, .int .i64 0]) (t := 26) ?hr ?_; (case hd => rfl); (case hg => rfl); (case hr => first | (go_simp; done) | (go_simp; rfl)); intro gb119 hg w5 hbox hb; have n0_ := Aside0.mk (qL (g := gb118) (o := .cells #[.slice A0_0 l0_0.length c0_0, .slice A0_1 l0_1.length c0_1, .int .i64 a0_2, .int .i64 a0_3] 26 (0, 0)) (by (with_reducible repeat (first | refine qE ?_ _ | refine qI ?_ | refine qD ?_ _)); exact BK118.out) hb); have n1_ := Aside0.mk (qO (by repeat (first | (with_reducible first | exact HB.out | apply qH | apply qA | apply qG | refine qF ?_ GE118.out) | exact HB.out)) hb); have n2_ := Aside0.mk (hbox); have n3_ := Aside0.mk ((by rw [hg]; exact (qM (by repeat (first | (with_reducible first | exact HB.out | apply qH | apply qA | apply qG | refine qF ?_ GE118.out) | exact HB.out))) : w.heap.size ≤ gb119)); have n4_ := Aside0.mk ((by rw [hg]; exact (qM (by repeat (first | (with_reducible first | exact HB.out | apply qH | apply qA | apply qG | refine qF ?_ GE118.out) | exact HB.out))) : w.heap.size ≤ gb119)); have n5_ := Aside0.mk ((by rw [hg]; exact Nat.ne_of_lt (zB (g := gb118) (o := .cells #[.slice A0_0 l0_0.length c0_0, .slice A0_1 l0_1.length c0_1, .int .i64 a0_2, .int .i64 a0_3] 26 (0, 0)) (by (with_reducible repeat (first | refine qE ?_ _ | refine qI ?_ | refine qD ?_ _)); exact BK118.out)) : gb118 ≠ gb119)); have n6_ := Aside0.mk ((by rw [hg]; exact Nat.ne_of_gt (zB (g := gb118) (o := .cells #[.slice A0_0 l0_0.length c0_0, .slice A0_1 l0_1.length c0_1, .int .i64 a0_2, .int .i64 a0_3] 26 (0, 0)) (by (with_reducible repeat (first | refine qE ?_ _ | refine qI ?_ | refine qD ?_ _)); exact BK118.out)) : gb119 ≠ gb118)); clear BK118; clear HB; have BK118 := n0_; have HB := n1_; have BK119 := n2_; have GW119 := n3_; have GE119 := n4_; have NB118_119 := n5_; have NB119_118 := n6_; clear n0_ n1_ n2_ n3_ n4_ n5_ n6_; clear hb hbox hg; have hnb6 := NB118_119.out; have hnc6 := NB119_118.out; have hcz7_0 : w5.cell? ⟨gb118, 0, none⟩ = some (.slice A0_0 l0_0.length c0_0) := (qC BK118.out 0).trans rfl; have hcz7_1 : w5.cell? ⟨gb118, 1, none⟩ = some (.slice A0_1 l0_1.length c0_1) := (qC BK118.out 1).trans rfl; have hcz7_2 : w5.cell? ⟨gb118, 2, none⟩ = some (.int .i64 a0_2) := (qC BK118.out 2).trans rfl; have hcz7_3 : w5.cell? ⟨gb118, 3, none⟩ = some (.int .i64 a0_3) := (qC BK118.out 3).trans rfl; have hfz7_0 := qB BK118.out 0; have hfz7_1 := qB BK118.out 1; have hfz7_2 := qB BK118.out 2; have hfz7_3 := qB BK118.out 3) | ((with_reducible refine qX (N := 3) rfl ?_); refine qW ?hg (N := 3) ?hd (cs := #[.slice none 0 0, .slice none 0 0, .int .i64 0, .int .i64 0]) (t := 26) ?hr ?_; (case hd => rfl); (case hg => rfl); (case hr => first | (go_simp; done) | (go_simp; rfl)); intro gb120 hg w8 hbox hb; have n0_ := Aside0.mk (qL (g := gb118) (o := .cells #[.slice A0_0 l0_0.length c0_0, .slice A0_1 l0_1.length c0_1, .int .i64 a0_2, .int .i64 a0_3] 26 (0, 0)) (by (with_reducible repeat (first | refine qE ?_ _ | refine qI ?_ | refine qD ?_ _)); exact BK118.out) hb); have n1_ := Aside0.mk (qL (g := gb119) (o := .cells #[.slice none 0 0, .slice none 0 0, .int .i64 0, .int .i64 0] 26 (0, 0)) (by (with_reducible repeat (first | refine qE ?_ _ | refine qI ?_ | refine qD ?_ _)); exact BK119.out) hb); have n2_ := Aside0.mk (qO (by repeat (first | (with_reducible first | exact HB.out | apply qH | apply qA | apply qG | refine qF ?_ GE118.out | refine qF ?_ GE119.out) | exact HB.out)) hb); have n3_ := Aside0.mk (hbox); have n4_ := Aside0.mk ((by rw [hg]; exact (qM (by repeat (first | (with_reducible first | exact HB.out | apply qH | apply qA | apply qG | refine qF ?_ GE118.out | refine qF ?_ GE119.out) | exact HB.out))) : w.heap.size ≤ gb120)); have n5_ := Aside0.mk ((by rw [hg]; exact (qM (by repeat (first | (with_reducible first | exact HB.out | apply qH | apply qA | apply qG | refine qF ?_ GE118.out | refine qF ?_ GE119.out) | exact HB.out))) : w.heap.size ≤ gb120)); have n6_ := Aside0.mk ((by rw [hg]; exact Nat.ne_of_lt (zB (g := gb118) (o := .cells #[.slice A0_0 l0_0.length c0_0, .slice A0_1 l0_1.length c0_1, .int .i64 a0_2, .int .i64 a0_3] 26 (0, 0)) (by (with_reducible repeat (first | refine qE ?_ _ | refine qI ?_ | refine qD ?_ _)); exact BK118.out)) : gb118 ≠ gb120)); have n7_ := Aside0.mk ((by rw [hg]; exact Nat.ne_of_gt (zB (g := gb118) (o := .cells #[.slice A0_0 l0_0.length c0_0, .slice A0_1 l0_1.length c0_1, .int .i64 a0_2, .int .i64 a0_3] 26 (0, 0)) (by (with_reducible repeat (first | refine qE ?_ _ | refine qI ?_ | refine qD ?_ _)); exact BK118.out)) : gb120 ≠ gb118)); have n8_ := Aside0.mk ((by rw [hg]; exact Nat.ne_of_lt (zB (g := gb119) (o := .cells #[.slice none 0 0, .slice none 0 0, .int .i64 0, .int .i64 0] 26 (0, 0)) (by (with_reducible repeat (first | refine qE ?_ _ | refine qI ?_ | refine qD ?_ _)); exact BK119.out)) : gb119 ≠ gb120)); have n9_ := Aside0.mk ((by rw [hg]; exact Nat.ne_of_gt (zB (g := gb119) (o := .cells #[.slice none 0 0, .slice none 0 0, .int .i64 0, .int .i64 0] 26 (0, 0)) (by (with_reducible repeat (first | refine qE ?_ _ | refine qI ?_ | refine qD ?_ _)); exact BK119.out)) : gb120 ≠ gb119)); clear BK118; clear BK119; clear HB; have BK118 := n0_; have BK119 := n1_; have HB := n2_; have BK120 := n3_; have GW120 := n4_; have GE120 := n5_; have NB118_120 := n6_; have NB120_118 := n7_; have NB119_120 := n8_; have NB120_119 := n9_; clear n0_ n1_ n2_ n3_ n4_ n5_ n6_ n7_ n8_ n9_; clear hb hbox hg; have hnb9 := NB120_118.out; have hnc9 := NB118_120.out; have hnb10 := NB120_119.out; have hnc10 := NB119_120.out; have hcz11_0 : w8.cell? ⟨gb120, 0, none⟩ = some (.slice none 0 0) := (qC BK120.out 0).trans rfl; have hcz11_1 : w8.cell? ⟨gb120, 1, none⟩ = some (.slice none 0 0) := (qC BK120.out 1).trans rfl; have hcz11_2 : w8.cell? ⟨gb120, 2, none⟩ = some (.int .i64 0) := (qC BK120.out 2).trans rfl; have hcz11_3 : w8.cell? ⟨gb120, 3, none⟩ = some (.int .i64 0) := (qC BK120.out 3).trans rfl; have hfz11_0 := qB BK120.out 0; have hfz11_1 := qB BK120.out 1; have hfz11_2 := qB BK120.out 2; have hfz11_3 := qB BK120.out 3) | ((with_reducible refine qX (N := 5) rfl ?_); refine Kd.R_lit Kd.string _ 9 ?hg (N := 5) ?hd (xs := ([] : List ByteArray)) (inner := []) (ok := fun _ => True) (okp := fun _ => True) ?hr ?hp (fun _ hk => hk) trivial (Below.refl _ _) (Nat.le_refl _) (by simp) ?_; (case hd => rfl); (case hg => rfl); (case hr => first | (go_simp; done) | (go_simp; rfl)); (case hp => exact (Reps.none _ _)); intro v122 w12 ho13 hb hg_ hnew_; clear hg_ hnew_; (first | rw [← Ny121.out] at ho13 | (simp only [Int.reduceToNat] at ho13; rw [← Ny121.out] at ho13)); have n0_ := Aside0.mk (Kd.zG ho13 (qM (by repeat (first | (with_reducible first | exact HB.out | apply qH | apply qA | apply qG | refine qF ?_ GE118.out | refine qF ?_ GE119.out | refine qF ?_ GE120.out) | exact HB.out)))); have n1_ := Aside0.mk (qL (g := gb118) (o := .cells #[.slice A0_0 l0_0.length c0_0, .slice A0_1 l0_1.length c0_1, .int .i64 a0_2, .int .i64 a0_3] 26 (0, 0)) (by (with_reducible repeat (first | refine qE ?_ _ | refine qI ?_ | refine qD ?_ _)); refine qQ ?_ NB118_120.out _; (with_reducible repeat (first | refine qE ?_ _ | refine qI ?_ | refine qD ?_ _)); refine qQ ?_ NB118_120.out _; (with_reducible repeat (first | refine qE ?_ _ | refine qI ?_ | refine qD ?_ _)); refine qQ ?_ NB118_120.out _; (with_reducible repeat (first | refine qE ?_ _ | refine qI ?_ | refine qD ?_ _)); refine qQ ?_ NB118_120.out _; (with_reducible repeat (first | refine qE ?_ _ | refine qI ?_ | refine qD ?_ _)); exact BK118.out) hb); have n2_ := Aside0.mk (qL (g := gb119) (o := .cells #[.slice none 0 0, .slice none 0 0, .int .i64 0, .int .i64 0] 26 (0, 0)) (by (with_reducible repeat (first | refine qE ?_ _ | refine qI ?_ | refine qD ?_ _)); refine qQ ?_ NB119_120.out _; (with_reducible repeat (first | refine qE ?_ _ | refine qI ?_ | refine qD ?_ _)); refine qQ ?_ NB119_120.out _; (with_reducible repeat (first | refine qE ?_ _ | refine qI ?_ | refine qD ?_ _)); refine qQ ?_ NB119_120.out _; (with_reducible repeat (first | refine qE ?_ _ | refine qI ?_ | refine qD ?_ _)); refine qQ ?_ NB119_120.out _; (with_reducible repeat (first | refine qE ?_ _ | refine qI ?_ | refine qD ?_ _)); exact BK119.out) hb); have n3_ := Aside0.mk (qL (g := gb120) (o := .cells #[.slice A0_0 l0_0.length c0_0, .slice A0_1 l0_1.length c0_1, .int .i64 a0_2, .int .i64 a0_3] 26 (0, 0)) (by (with_reducible repeat (first | refine qE ?_ _ | refine qI ?_ | refine qD ?_ _)); refine qU (cs := #[.slice A0_0 l0_0.length c0_0, .slice A0_1 l0_1.length c0_1, .int .i64 a0_2, .int .i64 0]) ?_ 3 _ rfl; (with_reducible repeat (first | refine qE ?_ _ | refine qI ?_ | refine qD ?_ _)); refine qU (cs := #[.slice A0_0 l0_0.length c0_0, .slice A0_1 l0_1.length c0_1, .int .i64 0, .int .i64 0]) ?_ 2 _ rfl; (with_reducible repeat (first | refine qE ?_ _ | refine qI ?_ | refine qD ?_ _)); refine qU (cs := #[.slice A0_0 l0_0.length c0_0, .slice none 0 0, .int .i64 0, .int .i64 0]) ?_ 1 _ rfl; (with_reducible repeat (first | refine qE ?_ _ | refine qI ?_ | refine qD ?_ _)); refine qU (cs := #[.slice none 0 0, .slice none 0 0, .int .i64 0, .int .i64 0]) ?_ 0 _ rfl; (with_reducible repeat (first | refine qE ?_ _ | refine qI ?_ | refine qD ?_ _)); exact BK120.out) hb); have n4_ := Aside0.mk (qO (by repeat (first | (with_reducible first | exact HB.out | apply qH | apply qA | apply qG | refine qF ?_ GE118.out | refine qF ?_ GE119.out | refine qF ?_ GE120.out) | exact HB.out)) hb); clear BK118; clear BK119; clear BK120; clear HB; have HO123 := n0_; have BK118 := n1_; have BK119 := n2_; have BK120 := n3_; have HB := n4_; clear n0_ n1_ n2_ n3_ n4_; clear hb ho13; have hcz14_0 : w12.cell? ⟨gb118, 0, none⟩ = some (.slice A0_0 l0_0.length c0_0) := (qC BK118.out 0).trans rfl; have hcz14_1 : w12.cell? ⟨gb118, 1, none⟩ = some (.slice A0_1 l0_1.length c0_1) := (qC BK118.out 1).trans rfl; have hcz14_2 : w12.cell? ⟨gb118, 2, none⟩ = some (.int .i64 a0_2) := (qC BK118.out 2).trans rfl; have hcz14_3 : w12.cell? ⟨gb118, 3, none⟩ = some (.int .i64 a0_3) := (qC BK118.out 3).trans rfl; have hfz14_0 := qB BK118.out 0; have hfz14_1 := qB BK118.out 1; have hfz14_2 := qB BK118.out 2; have hfz14_3 := qB BK118.out 3) | ((with_reducible refine zV (b := .append) (xs := #[.tmp 5, .tmp 7]) rfl ?_); at_builtin; refine Kd.xG Kd.string (w0 := w) w.heap.size rfl (.tmp 5) (.tmp 7) 23 9 (.string ⟨#[]⟩) 16 rfl Try.underlying23 info9 rfl (by decide) (by omega) v122 y121 l0_0 _ _ _ (fun _ => True) (fun _ => False) rfl rfl ?aO ?aR (fun _ _ h => h) (fun _ h => h.elim) ?aF ?aB ?aS ?aL ?_; (case aR => repeat (first | exact (Kd.qY HR0_0.out HB.out) | (with_reducible refine Kd.qZ ?_ _) | (with_reducible refine Kd.zA ?_ _) | (with_reducible refine Kd.zC ?_))); (case aB => exact (by repeat (first | (with_reducible first | exact HB.out | apply qH | apply qA | apply qG | refine qF ?_ GE118.out | refine qF ?_ GE119.out | refine qF ?_ GE120.out) | exact HB.out))); (case aF => exact (fun _ _ => trivial)); (case aO => exact (by (with_reducible repeat (first | apply Kd.qK | apply Kd.qJ | apply Kd.qN)); exact HO123.out)); (case aS => exact (qM (by repeat (first | (with_reducible first | exact HB.out | apply qH | apply qA | apply qG | refine qF ?_ GE118.out | refine qF ?_ GE119.out | refine qF ?_ GE120.out) | exact HB.out)))); (case aL => have := LMc2.out; omega); intro v125 w15 ho hb hg hat; rw [← Ny124.out] at ho; have n0_ := Aside0.mk (zP (g := gb118) (o := .cells #[.slice A0_0 l0_0.length c0_0, .slice A0_1 l0_1.length c0_1, .int .i64 a0_2, .int .i64 a0_3] 26 (0, 0)) (by (with_reducible repeat (first | refine qE ?_ _ | refine qI ?_ | refine qD ?_ _)); exact BK118.out) hg (Kd.R_ne HO123.out BK118.out (by decide))); have n1_ := Aside0.mk (zP (g := gb119) (o := .cells #[.slice none 0 0, .slice none 0 0, .int .i64 0, .int .i64 0] 26 (0, 0)) (by (with_reducible repeat (first | refine qE ?_ _ | refine qI ?_ | refine qD ?_ _)); exact BK119.out) hg (Kd.R_ne HO123.out BK119.out (by decide))); have n2_ := Aside0.mk (zP (g := gb120) (o := .cells #[.slice A0_0 l0_0.length c0_0, .slice A0_1 l0_1.length c0_1, .int .i64 a0_2, .int .i64 a0_3] 26 (0, 0)) (by (with_reducible repeat (first | refine qE ?_ _ | refine qI ?_ | refine qD ?_ _)); exact BK120.out) hg (Kd.R_ne HO123.out BK120.out (by decide))); have n3_ := Aside0.mk (hb); have n4_ := Aside0.mk (ho); clear BK118; clear BK119; clear BK120; clear HB; clear HO123; have BK118 := n0_; have BK119 := n1_; have BK120 := n2_; have HB := n3_; have HO126 := n4_; clear n0_ n1_ n2_ n3_ n4_; clear ho hb hg hat; obtain ⟨Ao16, co16, eo16⟩ := Kd.zE HO126.out; subst eo16; have hcz17_0 : w15.cell? ⟨gb120, 0, none⟩ = some (.slice A0_0 l0_0.length c0_0) := (qC BK120.out 0).trans rfl; have hcz17_1 : w15.cell? ⟨gb120, 1, none⟩ = some (.slice A0_1 l0_1.length c0_1) := (qC BK120.out 1).trans rfl; have hcz17_2 : w15.cell? ⟨gb120, 2, none⟩ = some (.int .i64 a0_2) := (qC BK120.out 2).trans rfl; have hcz17_3 : w15.cell? ⟨gb120, 3, none⟩ = some (.int .i64 a0_3) := (qC BK120.out 3).trans rfl; have hfz17_0 := qB BK120.out 0; have hfz17_1 := qB BK120.out 1; have hfz17_2 := qB BK120.out 2; have hfz17_3 := qB BK120.out 3) | ((with_reducible refine qX (N := 10) rfl ?_); refine Kd.R_lit k70 _ 70 ?hg (N := 10) ?hd (xs := ([] : List (S70))) (inner := []) (ok := fun _ => True) (okp := fun _ => True) ?hr ?hp (fun _ hk => hk) trivial (Below.refl _ _) (Nat.le_refl _) (by simp) ?_; (case hd => rfl); (case hg => rfl); (case hr => first | (go_simp; done) | (go_simp; rfl)); (case hp => exact (Reps.none _ _)); intro v128 w18 ho19 hb hg_ hnew_; clear hg_ hnew_; (first | rw [← Ny127.out] at ho19 | (simp only [Int.reduceToNat] at ho19; rw [← Ny127.out] at ho19)); have n0_ := Aside0.mk (Kd.qR (by (with_reducible repeat (first | apply Kd.qK | apply Kd.qJ | apply Kd.qN)); exact (Kd.qP (Kd.R_far (p := ⟨gb120, 0, none⟩) (Kd.qV HO126.out BK120.out (by decide)) (fun _ hk => hk.2) (.slice Ao16 y124.length co16)) (fun _ h_ => h_.1))) hb); have n1_ := Aside0.mk (Kd.zG ho19 (qM (by repeat (first | (with_reducible first | exact HB.out | apply qH | apply qA | apply qG | refine qF ?_ GE118.out | refine qF ?_ GE119.out | refine qF ?_ GE120.out) | exact HB.out)))); have n2_ := Aside0.mk (qL (g := gb118) (o := .cells #[.slice A0_0 l0_0.length c0_0, .slice A0_1 l0_1.length c0_1, .int .i64 a0_2, .int .i64 a0_3] 26 (0, 0)) (by (with_reducible repeat (first | refine qE ?_ _ | refine qI ?_ | refine qD ?_ _)); refine qQ ?_ NB118_120.out _; (with_reducible repeat (first | refine qE ?_ _ | refine qI ?_ | refine qD ?_ _)); exact BK118.out) hb); have n3_ := Aside0.mk (qL (g := gb119) (o := .cells #[.slice none 0 0, .slice none 0 0, .int .i64 0, .int .i64 0] 26 (0, 0)) (by (with_reducible repeat (first | refine qE ?_ _ | refine qI ?_ | refine qD ?_ _)); refine qQ ?_ NB119_120.out _; (with_reducible repeat (first | refine qE ?_ _ | refine qI ?_ | refine qD ?_ _)); exact BK119.out) hb); have n4_ := Aside0.mk (qL (g := gb120) (o := .cells #[.slice Ao16 y124.length co16, .slice A0_1 l0_1.length c0_1, .int .i64 a0_2, .int .i64 a0_3] 26 (0, 0)) (by (with_reducible repeat (first | refine qE ?_ _ | refine qI ?_ | refine qD ?_ _)); refine qU (cs := #[.slice A0_0 l0_0.length c0_0, .slice A0_1 l0_1.length c0_1, .int .i64 a0_2, .int .i64 a0_3]) ?_ 0 _ rfl; (with_reducible repeat (first | refine qE ?_ _ | refine qI ?_ | refine qD ?_ _)); exact BK120.out) hb); have n5_ := Aside0.mk (qO (by repeat (first | (with_reducible first | exact HB.out | apply qH | apply qA | apply qG | refine qF ?_ GE118.out | refine qF ?_ GE119.out | refine qF ?_ GE120.out) | exact HB.out)) hb); clear HO126; clear BK118; clear BK119; clear BK120; clear HB; have HO126 := n0_; have HO129 := n1_; have BK118 := n2_; have BK119 := n3_; have BK120 := n4_; have HB := n5_; clear n0_ n1_ n2_ n3_ n4_ n5_; clear hb ho19; have hcz20_0 : w18.cell? ⟨gb118, 0, none⟩ = some (.slice A0_0 l0_0.length c0_0) := (qC BK118.out 0).trans rfl; have hcz20_1 : w18.cell? ⟨gb118, 1, none⟩ = some (.slice A0_1 l0_1.length c0_1) := (qC BK118.out 1).trans rfl; have hcz20_2 : w18.cell? ⟨gb118, 2, none⟩ = some (.int .i64 a0_2) := (qC BK118.out 2).trans rfl; have hcz20_3 : w18.cell? ⟨gb118, 3, none⟩ = some (.int .i64 a0_3) := (qC BK118.out 3).trans rfl; have hfz20_0 := qB BK118.out 0; have hfz20_1 := qB BK118.out 1; have hfz20_2 := qB BK118.out 2; have hfz20_3 := qB BK118.out 3) | ((with_reducible refine zV (b := .append) (xs := #[.tmp 10, .tmp 12]) rfl ?_); at_builtin; refine Kd.xG k70 (w0 := w) w.heap.size rfl (.tmp 10) (.tmp 12) 24 70 (.agg #[(.int .i64 0), (.string ⟨#[]⟩)]) 24 rfl Try.underlying24 info70 rfl (by decide) (by omega) v128 y127 l0_1 _ _ _ (fun _ => True) (fun _ => False) rfl rfl ?aO ?aR (fun _ _ h => h) (fun _ h => h.elim) ?aF ?aB ?aS ?aL ?_; (case aR => repeat (first | exact (Kd.qY HR0_1.out HB.out) | (with_reducible refine Kd.qZ ?_ _) | (with_reducible refine Kd.zA ?_ _) | (with_reducible refine Kd.zC ?_))); (case aB => exact (by repeat (first | (with_reducible first | exact HB.out | apply qH | apply qA | apply qG | refine qF ?_ GE118.out | refine qF ?_ GE119.out | refine qF ?_ GE120.out) | exact HB.out))); (case aF => exact (fun _ _ => trivial)); (case aO => exact (by (with_reducible repeat (first | apply Kd.qK | apply Kd.qJ | apply Kd.qN)); exact HO129.out)); (case aS => exact (qM (by repeat (first | (with_reducible first | exact HB.out | apply qH | apply qA | apply qG | refine qF ?_ GE118.out | refine qF ?_ GE119.out | refine qF ?_ GE120.out) | exact HB.out)))); (case aL => have := LMc3.out; omega); intro v131 w21 ho hb hg hat; rw [← Ny130.out] at ho; have n0_ := Aside0.mk (zP (g := gb118) (o := .cells #[.slice A0_0 l0_0.length c0_0, .slice A0_1 l0_1.length c0_1, .int .i64 a0_2, .int .i64 a0_3] 26 (0, 0)) (by (with_reducible repeat (first | refine qE ?_ _ | refine qI ?_ | refine qD ?_ _)); exact BK118.out) hg (Kd.R_ne HO129.out BK118.out (by decide))); have n1_ := Aside0.mk (zP (g := gb119) (o := .cells #[.slice none 0 0, .slice none 0 0, .int .i64 0, .int .i64 0] 26 (0, 0)) (by (with_reducible repeat (first | refine qE ?_ _ | refine qI ?_ | refine qD ?_ _)); exact BK119.out) hg (Kd.R_ne HO129.out BK119.out (by decide))); have n2_ := Aside0.mk (zP (g := gb120) (o := .cells #[.slice Ao16 y124.length co16, .slice A0_1 l0_1.length c0_1, .int .i64 a0_2, .int .i64 a0_3] 26 (0, 0)) (by (with_reducible repeat (first | refine qE ?_ _ | refine qI ?_ | refine qD ?_ _)); exact BK120.out) hg (Kd.R_ne HO129.out BK120.out (by decide))); have n3_ := Aside0.mk (Kd.R_over' (by (with_reducible repeat (first | apply Kd.qK | apply Kd.qJ | apply Kd.qN)); exact HO126.out) (Kd.zO (by (with_reducible repeat (first | apply Kd.qK | apply Kd.qJ | apply Kd.qN)); exact HO129.out)) (by decide) hg); have n4_ := Aside0.mk (hb); have n5_ := Aside0.mk (ho); clear BK118; clear BK119; clear BK120; clear HO126; clear HB; clear HO129; have BK118 := n0_; have BK119 := n1_; have BK120 := n2_; have HO126 := n3_; have HB := n4_; have HO132 := n5_; clear n0_ n1_ n2_ n3_ n4_ n5_; clear ho hb hg hat; obtain ⟨Ao22, co22, eo22⟩ := Kd.zE HO132.out; subst eo22; have hcz23_0 : w21.cell? ⟨gb120, 0, none⟩ = some (.slice Ao16 y124.length co16) := (qC BK120.out 0).trans rfl; have hcz23_1 : w21.cell? ⟨gb120, 1, none⟩ = some (.slice A0_1 l0_1.length c0_1) := (qC BK120.out 1).trans rfl; have hcz23_2 : w21.cell? ⟨gb120, 2, none⟩ = some (.int .i64 a0_2) := (qC BK120.out 2).trans rfl; have hcz23_3 : w21.cell? ⟨gb120, 3, none⟩ = some (.int .i64 a0_3) := (qC BK120.out 3).trans rfl; have hfz23_0 := qB BK120.out 0; have hfz23_1 := qB BK120.out 1; have hfz23_2 := qB BK120.out 2; have hfz23_3 := qB BK120.out 3; have hcz24_0 : w21.cell? ⟨gb119, 0, none⟩ = some (.slice none 0 0) := (qC BK119.out 0).trans rfl; have hcz24_1 : w21.cell? ⟨gb119, 1, none⟩ = some (.slice none 0 0) := (qC BK119.out 1).trans rfl; have hcz24_2 : w21.cell? ⟨gb119, 2, none⟩ = some (.int .i64 0) := (qC BK119.out 2).trans rfl; have hcz24_3 : w21.cell? ⟨gb119, 3, none⟩ = some (.int .i64 0) := (qC BK119.out 3).trans rfl; have hfz24_0 := qB BK119.out 0; have hfz24_1 := qB BK119.out 1; have hfz24_2 := qB BK119.out 2; have hfz24_3 := qB BK119.out 3))
      refine bodyPost_ret (results_cell_row rfl _ _ gb119 26 #[.slice Ao16 y124.length co16, .slice Ao22 y130.length co22, .int .i64 a0_2, .int .i64 a0_3] (0, 0) _ rfl (by (with_reducible repeat (first | refine qE ?_ _ | refine qI ?_ | refine qD ?_ _)); refine qU (cs := #[.slice Ao16 y124.length co16, .slice Ao22 y130.length co22, .int .i64 a0_2, .int .i64 0]) ?_ 3 _ rfl; (with_reducible repeat (first | refine qE ?_ _ | refine qI ?_ | refine qD ?_ _)); refine qU (cs := #[.slice Ao16 y124.length co16, .slice Ao22 y130.length co22, .int .i64 0, .int .i64 0]) ?_ 2 _ rfl; (with_reducible repeat (first | refine qE ?_ _ | refine qI ?_ | refine qD ?_ _)); refine qU (cs := #[.slice Ao16 y124.length co16, .slice none 0 0, .int .i64 0, .int .i64 0]) ?_ 1 _ rfl; (with_reducible repeat (first | refine qE ?_ _ | refine qI ?_ | refine qD ?_ _)); refine qU (cs := #[.slice none 0 0, .slice none 0 0, .int .i64 0, .int .i64 0]) ?_ 0 _ rfl; (with_reducible repeat (first | refine qE ?_ _ | refine qI ?_ | refine qD ?_ _)); refine qQ ?_ NB119_120.out _; (with_reducible repeat (first | refine qE ?_ _ | refine qI ?_ | refine qD ?_ _)); exact BK119.out) Try.underlying26 rfl (by kernel_rfl)) rfl ?_
      exact ⟨_, _, by first | rfl | (simp [errW_none, errW_some] <;> rfl) | (simp [*, errW_none, errW_some] <;> rfl), by (with_reducible repeat (first | apply Kd.qK | apply Kd.qJ | apply Kd.qN)); exact Kd.qP (Kd.R_far (p := ⟨gb119, 3, none⟩) (Kd.R_far (p := ⟨gb119, 2, none⟩) (Kd.R_far (p := ⟨gb119, 1, none⟩) (Kd.R_far (p := ⟨gb119, 0, none⟩) (Kd.R_far (p := ⟨gb120, 1, none⟩) (Kd.qV (Kd.qV HO126.out BK120.out (by decide)) BK119.out (by decide)) (fun _ hk => hk.1.2) (.slice Ao22 y130.length co22)) (fun _ hk => hk.2) (.slice Ao16 y124.length co16)) (fun _ hk => hk.2) (.slice Ao22 y130.length co22)) (fun _ hk => hk.2) (.int .i64 a0_2)) (fun _ hk => hk.2) (.int .i64 a0_3)) (fun _ hk => trivial), by (with_reducible repeat (first | apply Kd.qK | apply Kd.qJ | apply Kd.qN)); exact Kd.qP (Kd.R_far (p := ⟨gb119, 3, none⟩) (Kd.R_far (p := ⟨gb119, 2, none⟩) (Kd.R_far (p := ⟨gb119, 1, none⟩) (Kd.R_far (p := ⟨gb119, 0, none⟩) (Kd.R_far (p := ⟨gb120, 1, none⟩) (Kd.qV (Kd.qV HO132.out BK120.out (by decide)) BK119.out (by decide)) (fun _ hk => hk.1.2) (.slice Ao22 y130.length co22)) (fun _ hk => hk.2) (.slice Ao16 y124.length co16)) (fun _ hk => hk.2) (.slice Ao22 y130.length co22)) (fun _ hk => hk.2) (.int .i64 a0_2)) (fun _ hk => hk.2) (.int .i64 a0_3)) (fun _ hk => trivial), by repeat (first | (with_reducible first | exact HB.out | apply qH | apply qA | apply qG | refine qF ?_ GE118.out | refine qF ?_ GE119.out | refine qF ?_ GE120.out) | exact HB.out)⟩
    · rw [if_neg c3] at H
      exact absurd H (by simp)
  · rw [if_neg c2] at H
    exact absurd H (by simp)

/-! ### spec_l7Less: function 69 -/
def spec_l7Less.f (a0 : Int) : Option (Int) := if a0 > 0 then (some (wrap64 (a0 - 1))) else (some a0)
set_option maxHeartbeats 8000000 in
set_option maxRecDepth 100000 in
theorem spec_l7Less.calls (a0 : Int) (r : Int) (w : World) (h : spec_l7Less.f a0 = some r) :
    Calls Try.prog 69 #[.int .i64 a0] w fun e w' => e = .returned (.int .i64 r) ∧ Drawn0 w w' := by
  have H : (if a0 > 0 then (some (wrap64 (a0 - 1))) else (some a0)) = some r := h
  clear h
  by_cases c2 : a0 > 0
  · rw [if_pos c2] at H
    have c2b0 : decide (0 < a0) = true := decide_eq_true c2
    clear c2
    obtain rfl := Option.some.inj H
    go_enter Try.func69, Try.ntmps69
    go_wp2
    go_ret
    exact ⟨by first | rfl | (simp; done) | (simp [*]; done), by repeat (first | exact Drawn0.refl _ | apply Drawn0.step)⟩
  · rw [if_neg c2] at H
    have c2b0 : decide (0 < a0) = false := decide_eq_false c2
    clear c2
    obtain rfl := Option.some.inj H
    go_enter Try.func69, Try.ntmps69
    go_wp2
    go_ret
    exact ⟨by first | rfl | (simp; done) | (simp [*]; done), by repeat (first | exact Drawn0.refl _ | apply Drawn0.step)⟩

end Go.Proofs.Ytepihebkdnmppaa.Ag
