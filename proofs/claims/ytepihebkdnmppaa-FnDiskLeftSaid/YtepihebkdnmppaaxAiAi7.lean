/- Walks of the seat's functions, written by a program of this session (xprint.py) with the kit's printer: each call comes to just what its Lean function says. -/
import Derived.Test.YtepihebkdnmppaaxAiAi0
import Derived.Test.YtepihebkdnmppaaxAiAi1
import Derived.Test.YtepihebkdnmppaaxAiAi2
import Derived.Test.YtepihebkdnmppaaxAiAi6
namespace Go.Proofs.Ytepihebkdnmppaa.Ai
open Go.RowKit Go.Proofs.YtepihebkdnmppaaV.PrintWords Go.Proofs.YtepihebkdnmppaaV.PrintLast Go.Proofs.YtepihebkdnmppaaV.PrintMore
attribute [local go_sem] max2_int min2_int max_two min_two max_three min_three max_four min_four   -- for this text's walks alone
attribute [local go_sem high] World.zS
set_option linter.unusedVariables false
set_option linter.unusedSimpArgs false

attribute [local go_sem high] eqA70
/-! ### laws_jtWaits: function 36 -/
def laws_jtWaits.l0 : Nat → List (S70) → List (S70) → Int → Option (Bool)
  | 0, _, _, _ => none
  | k + 1, x0, x1, x5 => if x5 < (x0.length : Int) then (if 0 ≤ x5 then (if x5 < (x1.length : Int) then (if (!(((rd_T70 x0 x5).f0) == ((rd_T70 x1 x5).f0)) || (!((((rd_T70 x0 x5).f1).toList) == (((rd_T70 x1 x5).f1).toList)))) = true then (some false) else (laws_jtWaits.l0 k x0 x1 (wrap64 (x5 + 1)))) else (none)) else (none)) else (some true)
def laws_jtWaits.f (k : Nat) (l0 : List (S70)) (l1 : List (S70)) : Option (Bool) := if (l0.length : Int) = (l1.length : Int) then (laws_jtWaits.l0 k l0 l1 0) else (some false)
theorem laws_jtWaits.mono_l : ∀ k, (∀ y0 y1 y2, LeO (laws_jtWaits.l0 k y0 y1 y2) (laws_jtWaits.l0 (k + 1) y0 y1 y2))
  | 0 => fun _ _ _ r h => by simp [laws_jtWaits.l0] at h
  | k + 1 => by
    have ih0 := laws_jtWaits.mono_l k
    · intro y0 y1 y2
      unfold laws_jtWaits.l0
      repeat' first
      | (with_reducible exact ih0 _ _ _)
      | (with_reducible exact LeO.refl _)
      | (with_reducible exact LeO.none _)
      | (with_reducible refine LeO.ite ?_ ?_)
      | (with_reducible refine LeO.bind ?_ (fun _ => ?_))
      | exact ih0 _ _ _
      | exact LeO.none _
      | refine LeO.ite ?_ ?_
      | refine LeO.bind ?_ (fun _ => ?_)
theorem laws_jtWaits.mono : ∀ a0 a1 k, LeO (laws_jtWaits.f k a0 a1) (laws_jtWaits.f (k + 1) a0 a1) := by
  intro a0 a1 k
  have ih0 := laws_jtWaits.mono_l k
  unfold laws_jtWaits.f
  repeat' first
      | (with_reducible exact ih0 _ _ _)
      | (with_reducible exact LeO.refl _)
      | (with_reducible exact LeO.none _)
      | (with_reducible refine LeO.ite ?_ ?_)
      | (with_reducible refine LeO.bind ?_ (fun _ => ?_))
      | exact ih0 _ _ _
      | exact LeO.none _
      | refine LeO.ite ?_ ?_
      | refine LeO.bind ?_ (fun _ => ?_)
set_option maxHeartbeats 8000000 in
set_option maxRecDepth 100000 in
theorem laws_jtWaits.calls (k : Nat) (A0 : Option Addr) (c0 : Nat) (l0 : List (S70)) (A1 : Option Addr) (c1 : Nat) (l1 : List (S70)) (r : Bool) (w : World) (hr0 : Kd.C k70 w A0 l0.length l0) (hc0 : l0.length ≤ c0) (hr1 : Kd.C k70 w A1 l1.length l1) (hc1 : l1.length ≤ c1) (h : laws_jtWaits.f k l0 l1 = some r) :
    Calls Try.prog 36 #[.slice A0 l0.length c0, .slice A1 l1.length c1] w fun e w' => e = .returned (.bool r) ∧ Drawn0 w w' := by
  have hu70 := Try.underlying70
  have HR0 := Aside0.mk hr0
  have HC0 := Aside0.mk hc0
  clear hr0 hc0
  have HR1 := Aside0.mk hr1
  have HC1 := Aside0.mk hc1
  clear hr1 hc1
  have H : (if (l0.length : Int) = (l1.length : Int) then (laws_jtWaits.l0 k l0 l1 0) else (some false)) = some r := h
  clear h
  by_cases c3 : (l0.length : Int) = (l1.length : Int)
  · rw [if_pos c3] at H
    have c3b0 : ((l0.length : Int) == (l1.length : Int)) = true := beq_iff_eq.mpr c3
    have c3b1 : ((l0.length : Int) != (l1.length : Int)) = false := bne_eq_false_iff_eq.mpr c3
    have c3b2 : (l0.length == l1.length) = true := by first | simpa using c3 | (simp at c3 ⊢; omega)
    clear c3
    have H' := Aside0.mk H
    clear H
    go_enter Try.func36, Try.ntmps36
    go_wp2
    repeat (go_quiet (fail); try go_wp2)
    go_loopg [5] k (fun kq v5 w' => ∃ (x5_1 : Int), v5 = .int .i64 x5_1 ∧ Aside0 (laws_jtWaits.l0 kq l0 l1 x5_1 = some r) ∧ Aside0 (kq ≤ k) ∧ Drawn0 w w')
    case atStart => exact ⟨(0), (by first | rfl | (simp; done) | (simp [*]; done)), H', ⟨Nat.le_refl _⟩, by repeat (first | exact Drawn0.refl _ | apply Drawn0.step)⟩
    case round =>
      clear H'
      try clear c1
      try clear p2
      try clear c3
      try clear c3b0
      try clear c3b1
      try clear c3b2
      obtain ⟨x5_1, rfl, HA, HK1, ⟨m1, rfl⟩⟩ := hrel
      cases gk with
      | zero => exact absurd HA.out (by simp [laws_jtWaits.l0])
      | succ k1 =>
        have H := HA.out
        clear HA
        simp only [laws_jtWaits.l0] at H
        by_cases c4 : x5_1 < (l0.length : Int)
        · rw [if_pos c4] at H
          have c4b0 : decide (x5_1 < (l0.length : Int)) = true := decide_eq_true c4
          clear c4
          by_cases c5 : 0 ≤ x5_1
          · rw [if_pos c5] at H
            have c5b0 : decide (0 ≤ x5_1) = true := decide_eq_true c5
            clear c5
            by_cases c6 : x5_1 < (l1.length : Int)
            · rw [if_pos c6] at H
              have c6b0 : decide (x5_1 < (l1.length : Int)) = true := decide_eq_true c6
              clear c6
              by_cases c7 : (!(((rd_T70 l0 x5_1).f0) == ((rd_T70 l1 x5_1).f0)) || (!((((rd_T70 l0 x5_1).f1).toList) == (((rd_T70 l1 x5_1).f1).toList)))) = true
              · rw [if_pos c7] at H
                have c7b0 : (!(((rd_T70 l0 x5_1).f0) == ((rd_T70 l1 x5_1).f0)) || (!((((rd_T70 l0 x5_1).f1).toList) == (((rd_T70 l1 x5_1).f1).toList)))) = true := c7
                clear c7
                obtain rfl := Option.some.inj H
                have p331 : 0 ≤ (x5_1 : Int) := of_decide_eq_true (by first | (with_reducible assumption) | assumption)
                have q331 : x5_1 < (l0.length : Int) := of_decide_eq_true (by first | (with_reducible assumption) | assumption)
                obtain ⟨ad331, e331, hx331_0, hx331_1⟩ := at_T70 HR0.out x5_1 p331 q331
                cases e331
                replace p331 := eq_true p331
                replace q331 := eq_true q331
                have p332 : 0 ≤ (x5_1 : Int) := of_decide_eq_true (by first | (with_reducible assumption) | assumption)
                have q332 : x5_1 < (l1.length : Int) := of_decide_eq_true (by first | (with_reducible assumption) | assumption)
                obtain ⟨ad332, e332, hx332_0, hx332_1⟩ := at_T70 HR1.out x5_1 p332 q332
                cases e332
                replace p332 := eq_true p332
                replace q332 := eq_true q332
                go_wp2
                repeat (go_quiet (fail); try go_wp2)
                go_ret
                exact ⟨by first | rfl | (simp; done) | (simp [*]; done), by repeat (first | exact Drawn0.refl _ | apply Drawn0.step)⟩
              · rw [if_neg c7] at H
                have c7b0 : (!(((rd_T70 l0 x5_1).f0) == ((rd_T70 l1 x5_1).f0)) || (!((((rd_T70 l0 x5_1).f1).toList) == (((rd_T70 l1 x5_1).f1).toList)))) = false := by simpa using c7
                clear c7
                have H' := Aside0.mk H
                clear H
                have p331 : 0 ≤ (x5_1 : Int) := of_decide_eq_true (by first | (with_reducible assumption) | assumption)
                have q331 : x5_1 < (l0.length : Int) := of_decide_eq_true (by first | (with_reducible assumption) | assumption)
                obtain ⟨ad331, e331, hx331_0, hx331_1⟩ := at_T70 HR0.out x5_1 p331 q331
                cases e331
                replace p331 := eq_true p331
                replace q331 := eq_true q331
                have p332 : 0 ≤ (x5_1 : Int) := of_decide_eq_true (by first | (with_reducible assumption) | assumption)
                have q332 : x5_1 < (l1.length : Int) := of_decide_eq_true (by first | (with_reducible assumption) | assumption)
                obtain ⟨ad332, e332, hx332_0, hx332_1⟩ := at_T70 HR1.out x5_1 p332 q332
                cases e332
                replace p332 := eq_true p332
                replace q332 := eq_true q332
                go_wp2
                repeat (go_quiet (fail); try go_wp2)
                go_roundg k1
                case measure => have := HK1.out; omega
                case rel => exact ⟨(wrap64 (x5_1 + 1)), (by first | rfl | (simp; done) | (simp [*]; done)), H', ⟨by have := HK1.out; omega⟩, by repeat (first | exact Drawn0.refl _ | apply Drawn0.step)⟩
            · rw [if_neg c6] at H
              exact absurd H (by simp)
          · rw [if_neg c5] at H
            exact absurd H (by simp)
        · rw [if_neg c4] at H
          have c4b0 : decide (x5_1 < (l0.length : Int)) = false := decide_eq_false c4
          clear c4
          obtain rfl := Option.some.inj H
          go_wp2
          repeat (go_quiet (fail); try go_wp2)
          go_ret
          exact ⟨by first | rfl | (simp; done) | (simp [*]; done), by repeat (first | exact Drawn0.refl _ | apply Drawn0.step)⟩
  · rw [if_neg c3] at H
    have c3b0 : ((l0.length : Int) == (l1.length : Int)) = false := beq_eq_false_iff_ne.mpr c3
    have c3b1 : ((l0.length : Int) != (l1.length : Int)) = true := bne_iff_ne.mpr c3
    have c3b2 : (l0.length == l1.length) = false := by first | simpa using c3 | (simp at c3 ⊢; omega)
    obtain rfl := Option.some.inj H
    go_enter Try.func36, Try.ntmps36
    go_wp2
    repeat (go_quiet (fail); try go_wp2)
    go_ret
    exact ⟨by first | rfl | (simp; done) | (simp [*]; done), by repeat (first | exact Drawn0.refl _ | apply Drawn0.step)⟩

/-! ### laws_jtDisk: function 13 -/
def laws_jtDisk.f (k : Nat) (l0_0 : List ByteArray) (l0_1 : List (S70)) (a0_2 : Int) (a0_3 : Int) (l1_0 : List ByteArray) (l1_1 : List (S70)) (a1_2 : Int) (a1_3 : Int) : Option (Bool) := (laws_jtTexts.f k l0_0 l1_0).bind fun t335 => (if t335 = true then ((laws_jtWaits.f k l0_1 l1_1).bind fun t336 => (if t336 = true then (if a0_2 = a1_2 then (some (a0_3 == a1_3)) else (some false)) else (some false))) else (some false))
theorem laws_jtDisk.mono : ∀ a0 a1 a2 a3 a4 a5 a6 a7 k, LeO (laws_jtDisk.f k a0 a1 a2 a3 a4 a5 a6 a7) (laws_jtDisk.f (k + 1) a0 a1 a2 a3 a4 a5 a6 a7) := by
  intro a0 a1 a2 a3 a4 a5 a6 a7 k
  unfold laws_jtDisk.f
  repeat' first
      | (with_reducible exact laws_jtTexts.mono _ _ _)
      | (with_reducible exact laws_jtWaits.mono _ _ _)
      | (with_reducible exact LeO.refl _)
      | (with_reducible exact LeO.none _)
      | (with_reducible refine LeO.ite ?_ ?_)
      | (with_reducible refine LeO.bind ?_ (fun _ => ?_))
      | exact laws_jtTexts.mono _ _ _
      | exact laws_jtWaits.mono _ _ _
      | exact LeO.none _
      | refine LeO.ite ?_ ?_
      | refine LeO.bind ?_ (fun _ => ?_)
set_option maxHeartbeats 8000000 in
set_option maxRecDepth 100000 in
theorem laws_jtDisk.calls (k : Nat) (A0_0 : Option Addr) (c0_0 : Nat) (l0_0 : List ByteArray) (A0_1 : Option Addr) (c0_1 : Nat) (l0_1 : List (S70)) (a0_2 : Int) (a0_3 : Int) (A1_0 : Option Addr) (c1_0 : Nat) (l1_0 : List ByteArray) (A1_1 : Option Addr) (c1_1 : Nat) (l1_1 : List (S70)) (a1_2 : Int) (a1_3 : Int) (r : Bool) (w : World) (hr0_0 : Kd.C Kd.string w A0_0 l0_0.length l0_0) (hc0_0 : l0_0.length ≤ c0_0) (hr0_1 : Kd.C k70 w A0_1 l0_1.length l0_1) (hc0_1 : l0_1.length ≤ c0_1) (hr1_0 : Kd.C Kd.string w A1_0 l1_0.length l1_0) (hc1_0 : l1_0.length ≤ c1_0) (hr1_1 : Kd.C k70 w A1_1 l1_1.length l1_1) (hc1_1 : l1_1.length ≤ c1_1) (h : laws_jtDisk.f k l0_0 l0_1 a0_2 a0_3 l1_0 l1_1 a1_2 a1_3 = some r) :
    Calls Try.prog 13 #[.agg #[.slice A0_0 l0_0.length c0_0, .slice A0_1 l0_1.length c0_1, .int .i64 a0_2, .int .i64 a0_3], .agg #[.slice A1_0 l1_0.length c1_0, .slice A1_1 l1_1.length c1_1, .int .i64 a1_2, .int .i64 a1_3]] w fun e w' => e = .returned (.bool r) ∧ Below w.heap.size w w' := by
  have hu26 := Try.underlying26
  have HR0_0 := Aside0.mk hr0_0
  have HC0_0 := Aside0.mk hc0_0
  clear hr0_0 hc0_0
  have HR0_1 := Aside0.mk hr0_1
  have HC0_1 := Aside0.mk hc0_1
  clear hr0_1 hc0_1
  have HR1_0 := Aside0.mk hr1_0
  have HC1_0 := Aside0.mk hc1_0
  clear hr1_0 hc1_0
  have HR1_1 := Aside0.mk hr1_1
  have HC1_1 := Aside0.mk hc1_1
  clear hr1_1 hc1_1
  have HB := Aside0.mk (Below.refl w.heap.size w)
  have H : ((laws_jtTexts.f k l0_0 l1_0).bind fun t335 => (if t335 = true then ((laws_jtWaits.f k l0_1 l1_1).bind fun t336 => (if t336 = true then (if a0_2 = a1_2 then (some (a0_3 == a1_3)) else (some false)) else (some false))) else (some false))) = some r := h
  clear h
  replace H := Option.bind_eq_some_iff.mp H
  obtain ⟨t335, A30, H⟩ := H
  replace H : (if t335 = true then ((laws_jtWaits.f k l0_1 l1_1).bind fun t336 => (if t336 = true then (if a0_2 = a1_2 then (some (a0_3 == a1_3)) else (some false)) else (some false))) else (some false)) = some r := H
  have A3 := Aside0.mk A30
  clear A30
  by_cases c4 : t335 = true
  · subst c4
    have H1 : ((laws_jtWaits.f k l0_1 l1_1).bind fun t336 => (if t336 = true then (if a0_2 = a1_2 then (some (a0_3 == a1_3)) else (some false)) else (some false))) = some r := by rw [if_pos rfl] at H; exact H
    clear H
    have H := H1
    clear H1
    replace H := Option.bind_eq_some_iff.mp H
    obtain ⟨t336, A50, H⟩ := H
    replace H : (if t336 = true then (if a0_2 = a1_2 then (some (a0_3 == a1_3)) else (some false)) else (some false)) = some r := H
    have A5 := Aside0.mk A50
    clear A50
    by_cases c6 : t336 = true
    · subst c6
      have H1 : (if a0_2 = a1_2 then (some (a0_3 == a1_3)) else (some false)) = some r := by rw [if_pos rfl] at H; exact H
      clear H
      have H := H1
      clear H1
      by_cases c7 : a0_2 = a1_2
      · rw [if_pos c7] at H
        have c7b0 : (a0_2 == a1_2) = true := beq_iff_eq.mpr c7
        have c7b1 : (a0_2 != a1_2) = false := bne_eq_false_iff_eq.mpr c7
        clear c7
        obtain rfl := Option.some.inj H
        go_enter Try.func13, Try.ntmps13
        go_wp2_with (first | ((with_reducible refine zA (N := 2) rfl ?_); refine qU ?hg (N := 2) ?hd (cs := #[.slice A0_0 l0_0.length c0_0, .slice A0_1 l0_1.length c0_1, .int .i64 a0_2, .int .i64 a0_3]) (t := 26) ?hr ?_; (case hd => rfl); (case hg => rfl); (case hr => first | (go_simp; done) | (go_simp; rfl)); intro gb333 hg w8 hbox hb; have n0_ := Aside0.mk (qL (by repeat (first | (with_reducible first | exact HB.out | apply qF | apply qB | apply qE) | exact HB.out)) hb); have n1_ := Aside0.mk (hbox); have n2_ := Aside0.mk ((by rw [hg]; exact (qK (by repeat (first | (with_reducible first | exact HB.out | apply qF | apply qB | apply qE) | exact HB.out))) : w.heap.size ≤ gb333)); have n3_ := Aside0.mk ((by rw [hg]; exact (qK (by repeat (first | (with_reducible first | exact HB.out | apply qF | apply qB | apply qE) | exact HB.out))) : w.heap.size ≤ gb333)); clear HB; have HB := n0_; have BK333 := n1_; have GW333 := n2_; have GE333 := n3_; clear n0_ n1_ n2_ n3_; clear hb hbox hg) | ((with_reducible refine zA (N := 3) rfl ?_); refine qU ?hg (N := 3) ?hd (cs := #[.slice A1_0 l1_0.length c1_0, .slice A1_1 l1_1.length c1_1, .int .i64 a1_2, .int .i64 a1_3]) (t := 26) ?hr ?_; (case hd => rfl); (case hg => rfl); (case hr => first | (go_simp; done) | (go_simp; rfl)); intro gb334 hg w9 hbox hb; have n0_ := Aside0.mk (qJ (g := gb333) (o := .cells #[.slice A0_0 l0_0.length c0_0, .slice A0_1 l0_1.length c0_1, .int .i64 a0_2, .int .i64 a0_3] 26 (0, 0)) (bw_ BK333.out) hb); have n1_ := Aside0.mk (qL (by repeat (first | (with_reducible first | exact HB.out | apply qF | apply qB | apply qE | refine qD ?_ GE333.out) | exact HB.out)) hb); have n2_ := Aside0.mk (hbox); have n3_ := Aside0.mk ((by rw [hg]; exact (qK (by repeat (first | (with_reducible first | exact HB.out | apply qF | apply qB | apply qE | refine qD ?_ GE333.out) | exact HB.out))) : w.heap.size ≤ gb334)); have n4_ := Aside0.mk ((by rw [hg]; exact (qK (by repeat (first | (with_reducible first | exact HB.out | apply qF | apply qB | apply qE | refine qD ?_ GE333.out) | exact HB.out))) : w.heap.size ≤ gb334)); have n5_ := Aside0.mk ((by rw [hg]; exact Nat.ne_of_lt (zF (g := gb333) (o := .cells #[.slice A0_0 l0_0.length c0_0, .slice A0_1 l0_1.length c0_1, .int .i64 a0_2, .int .i64 a0_3] 26 (0, 0)) (bw_ BK333.out)) : gb333 ≠ gb334)); have n6_ := Aside0.mk ((by rw [hg]; exact Nat.ne_of_gt (zF (g := gb333) (o := .cells #[.slice A0_0 l0_0.length c0_0, .slice A0_1 l0_1.length c0_1, .int .i64 a0_2, .int .i64 a0_3] 26 (0, 0)) (bw_ BK333.out)) : gb334 ≠ gb333)); clear BK333; clear HB; have BK333 := n0_; have HB := n1_; have BK334 := n2_; have GW334 := n3_; have GE334 := n4_; have NB333_334 := n5_; have NB334_333 := n6_; clear n0_ n1_ n2_ n3_ n4_ n5_ n6_; clear hb hbox hg; have hnb10 := NB333_334.out; have hnc10 := NB334_333.out; have hcz11_0 : w9.cell? ⟨gb333, 0, none⟩ = some (.slice A0_0 l0_0.length c0_0) := (qA BK333.out 0).trans rfl; have hcz11_1 : w9.cell? ⟨gb333, 1, none⟩ = some (.slice A0_1 l0_1.length c0_1) := (qA BK333.out 1).trans rfl; have hcz11_2 : w9.cell? ⟨gb333, 2, none⟩ = some (.int .i64 a0_2) := (qA BK333.out 2).trans rfl; have hcz11_3 : w9.cell? ⟨gb333, 3, none⟩ = some (.int .i64 a0_3) := (qA BK333.out 3).trans rfl; have hfz11_0 := qC BK333.out 0; have hfz11_1 := qC BK333.out 1; have hfz11_2 := qC BK333.out 2; have hfz11_3 := qC BK333.out 3; have hcz12_0 : w9.cell? ⟨gb334, 0, none⟩ = some (.slice A1_0 l1_0.length c1_0) := (qA BK334.out 0).trans rfl; have hcz12_1 : w9.cell? ⟨gb334, 1, none⟩ = some (.slice A1_1 l1_1.length c1_1) := (qA BK334.out 1).trans rfl; have hcz12_2 : w9.cell? ⟨gb334, 2, none⟩ = some (.int .i64 a1_2) := (qA BK334.out 2).trans rfl; have hcz12_3 : w9.cell? ⟨gb334, 3, none⟩ = some (.int .i64 a1_3) := (qA BK334.out 3).trans rfl; have hfz12_0 := qC BK334.out 0; have hfz12_1 := qC BK334.out 1; have hfz12_2 := qC BK334.out 2; have hfz12_3 := qC BK334.out 3) | ((with_reducible refine qV (f := 19) rfl ?_); refine zL (some 9) rfl rfl Try.func19 (by kernel_rfl) rfl #[.slice A0_0 l0_0.length c0_0, .slice A1_0 l1_0.length c1_0] rfl (by (try simp only [List.map_toArray, List.map_cons, List.map_nil]); first | done | rfl | (simp only [List.length_drop, List.length_take]; rfl)) ?_; (with_reducible refine (laws_jtTexts.calls k _ _ l0_0 _ _ l1_0 true _ ?side1 ?side2 ?side3 ?side4 A3.out).mono ?_); (case side1 => repeat (first | exact (Kd.zK HR0_0.out HB.out) | (with_reducible refine Kd.qX ?_ _) | (with_reducible refine Kd.qY ?_ _) | (with_reducible refine Kd.zC ?_))); (case side2 => exact HC0_0.out); (case side3 => repeat (first | exact (Kd.zK HR1_0.out HB.out) | (with_reducible refine Kd.qX ?_ _) | (with_reducible refine Kd.qY ?_ _) | (with_reducible refine Kd.zC ?_))); (case side4 => exact HC1_0.out); rintro e w' ⟨rfl, ⟨nd, rfl⟩⟩; refine ⟨_, rfl, ?_⟩) | (go_at_call 36; (with_reducible refine (laws_jtWaits.calls k _ _ l0_1 _ _ l1_1 true _ ?side1 ?side2 ?side3 ?side4 A5.out).mono ?_); (case side1 => repeat (first | exact (Kd.zK HR0_1.out (by repeat (first | (with_reducible first | exact HB.out | apply qF | apply qB | apply qE | refine qD ?_ GE333.out | refine qD ?_ GE334.out) | exact HB.out))) | (with_reducible refine Kd.qX ?_ _) | (with_reducible refine Kd.qY ?_ _) | (with_reducible refine Kd.zC ?_))); (case side2 => exact HC0_1.out); (case side3 => repeat (first | exact (Kd.zK HR1_1.out (by repeat (first | (with_reducible first | exact HB.out | apply qF | apply qB | apply qE | refine qD ?_ GE333.out | refine qD ?_ GE334.out) | exact HB.out))) | (with_reducible refine Kd.qX ?_ _) | (with_reducible refine Kd.qY ?_ _) | (with_reducible refine Kd.zC ?_))); (case side4 => exact HC1_1.out); rintro e w' ⟨rfl, ⟨nd, rfl⟩⟩))
        go_ret
        exact ⟨by first | rfl | (simp [errW_none, errW_some] <;> rfl) | (simp [*, errW_none, errW_some] <;> rfl), by repeat (first | (with_reducible first | exact HB.out | apply qF | apply qB | apply qE | refine qD ?_ GE333.out | refine qD ?_ GE334.out) | exact HB.out)⟩
      · rw [if_neg c7] at H
        have c7b0 : (a0_2 == a1_2) = false := beq_eq_false_iff_ne.mpr c7
        have c7b1 : (a0_2 != a1_2) = true := bne_iff_ne.mpr c7
        obtain rfl := Option.some.inj H
        go_enter Try.func13, Try.ntmps13
        go_wp2_with (first | ((with_reducible refine zA (N := 2) rfl ?_); refine qU ?hg (N := 2) ?hd (cs := #[.slice A0_0 l0_0.length c0_0, .slice A0_1 l0_1.length c0_1, .int .i64 a0_2, .int .i64 a0_3]) (t := 26) ?hr ?_; (case hd => rfl); (case hg => rfl); (case hr => first | (go_simp; done) | (go_simp; rfl)); intro gb333 hg w13 hbox hb; have n0_ := Aside0.mk (qL (by repeat (first | (with_reducible first | exact HB.out | apply qF | apply qB | apply qE) | exact HB.out)) hb); have n1_ := Aside0.mk (hbox); have n2_ := Aside0.mk ((by rw [hg]; exact (qK (by repeat (first | (with_reducible first | exact HB.out | apply qF | apply qB | apply qE) | exact HB.out))) : w.heap.size ≤ gb333)); have n3_ := Aside0.mk ((by rw [hg]; exact (qK (by repeat (first | (with_reducible first | exact HB.out | apply qF | apply qB | apply qE) | exact HB.out))) : w.heap.size ≤ gb333)); clear HB; have HB := n0_; have BK333 := n1_; have GW333 := n2_; have GE333 := n3_; clear n0_ n1_ n2_ n3_; clear hb hbox hg) | ((with_reducible refine zA (N := 3) rfl ?_); refine qU ?hg (N := 3) ?hd (cs := #[.slice A1_0 l1_0.length c1_0, .slice A1_1 l1_1.length c1_1, .int .i64 a1_2, .int .i64 a1_3]) (t := 26) ?hr ?_; (case hd => rfl); (case hg => rfl); (case hr => first | (go_simp; done) | (go_simp; rfl)); intro gb334 hg w14 hbox hb; have n0_ := Aside0.mk (qJ (g := gb333) (o := .cells #[.slice A0_0 l0_0.length c0_0, .slice A0_1 l0_1.length c0_1, .int .i64 a0_2, .int .i64 a0_3] 26 (0, 0)) (bw_ BK333.out) hb); have n1_ := Aside0.mk (qL (by repeat (first | (with_reducible first | exact HB.out | apply qF | apply qB | apply qE | refine qD ?_ GE333.out) | exact HB.out)) hb); have n2_ := Aside0.mk (hbox); have n3_ := Aside0.mk ((by rw [hg]; exact (qK (by repeat (first | (with_reducible first | exact HB.out | apply qF | apply qB | apply qE | refine qD ?_ GE333.out) | exact HB.out))) : w.heap.size ≤ gb334)); have n4_ := Aside0.mk ((by rw [hg]; exact (qK (by repeat (first | (with_reducible first | exact HB.out | apply qF | apply qB | apply qE | refine qD ?_ GE333.out) | exact HB.out))) : w.heap.size ≤ gb334)); have n5_ := Aside0.mk ((by rw [hg]; exact Nat.ne_of_lt (zF (g := gb333) (o := .cells #[.slice A0_0 l0_0.length c0_0, .slice A0_1 l0_1.length c0_1, .int .i64 a0_2, .int .i64 a0_3] 26 (0, 0)) (bw_ BK333.out)) : gb333 ≠ gb334)); have n6_ := Aside0.mk ((by rw [hg]; exact Nat.ne_of_gt (zF (g := gb333) (o := .cells #[.slice A0_0 l0_0.length c0_0, .slice A0_1 l0_1.length c0_1, .int .i64 a0_2, .int .i64 a0_3] 26 (0, 0)) (bw_ BK333.out)) : gb334 ≠ gb333)); clear BK333; clear HB; have BK333 := n0_; have HB := n1_; have BK334 := n2_; have GW334 := n3_; have GE334 := n4_; have NB333_334 := n5_; have NB334_333 := n6_; clear n0_ n1_ n2_ n3_ n4_ n5_ n6_; clear hb hbox hg; have hnb15 := NB333_334.out; have hnc15 := NB334_333.out; have hcz16_0 : w14.cell? ⟨gb333, 0, none⟩ = some (.slice A0_0 l0_0.length c0_0) := (qA BK333.out 0).trans rfl; have hcz16_1 : w14.cell? ⟨gb333, 1, none⟩ = some (.slice A0_1 l0_1.length c0_1) := (qA BK333.out 1).trans rfl; have hcz16_2 : w14.cell? ⟨gb333, 2, none⟩ = some (.int .i64 a0_2) := (qA BK333.out 2).trans rfl; have hcz16_3 : w14.cell? ⟨gb333, 3, none⟩ = some (.int .i64 a0_3) := (qA BK333.out 3).trans rfl; have hfz16_0 := qC BK333.out 0; have hfz16_1 := qC BK333.out 1; have hfz16_2 := qC BK333.out 2; have hfz16_3 := qC BK333.out 3; have hcz17_0 : w14.cell? ⟨gb334, 0, none⟩ = some (.slice A1_0 l1_0.length c1_0) := (qA BK334.out 0).trans rfl; have hcz17_1 : w14.cell? ⟨gb334, 1, none⟩ = some (.slice A1_1 l1_1.length c1_1) := (qA BK334.out 1).trans rfl; have hcz17_2 : w14.cell? ⟨gb334, 2, none⟩ = some (.int .i64 a1_2) := (qA BK334.out 2).trans rfl; have hcz17_3 : w14.cell? ⟨gb334, 3, none⟩ = some (.int .i64 a1_3) := (qA BK334.out 3).trans rfl; have hfz17_0 := qC BK334.out 0; have hfz17_1 := qC BK334.out 1; have hfz17_2 := qC BK334.out 2; have hfz17_3 := qC BK334.out 3) | ((with_reducible refine qV (f := 19) rfl ?_); refine zL (some 9) rfl rfl Try.func19 (by kernel_rfl) rfl #[.slice A0_0 l0_0.length c0_0, .slice A1_0 l1_0.length c1_0] rfl (by (try simp only [List.map_toArray, List.map_cons, List.map_nil]); first | done | rfl | (simp only [List.length_drop, List.length_take]; rfl)) ?_; (with_reducible refine (laws_jtTexts.calls k _ _ l0_0 _ _ l1_0 true _ ?side1 ?side2 ?side3 ?side4 A3.out).mono ?_); (case side1 => repeat (first | exact (Kd.zK HR0_0.out HB.out) | (with_reducible refine Kd.qX ?_ _) | (with_reducible refine Kd.qY ?_ _) | (with_reducible refine Kd.zC ?_))); (case side2 => exact HC0_0.out); (case side3 => repeat (first | exact (Kd.zK HR1_0.out HB.out) | (with_reducible refine Kd.qX ?_ _) | (with_reducible refine Kd.qY ?_ _) | (with_reducible refine Kd.zC ?_))); (case side4 => exact HC1_0.out); rintro e w' ⟨rfl, ⟨nd, rfl⟩⟩; refine ⟨_, rfl, ?_⟩) | (go_at_call 36; (with_reducible refine (laws_jtWaits.calls k _ _ l0_1 _ _ l1_1 true _ ?side1 ?side2 ?side3 ?side4 A5.out).mono ?_); (case side1 => repeat (first | exact (Kd.zK HR0_1.out (by repeat (first | (with_reducible first | exact HB.out | apply qF | apply qB | apply qE | refine qD ?_ GE333.out | refine qD ?_ GE334.out) | exact HB.out))) | (with_reducible refine Kd.qX ?_ _) | (with_reducible refine Kd.qY ?_ _) | (with_reducible refine Kd.zC ?_))); (case side2 => exact HC0_1.out); (case side3 => repeat (first | exact (Kd.zK HR1_1.out (by repeat (first | (with_reducible first | exact HB.out | apply qF | apply qB | apply qE | refine qD ?_ GE333.out | refine qD ?_ GE334.out) | exact HB.out))) | (with_reducible refine Kd.qX ?_ _) | (with_reducible refine Kd.qY ?_ _) | (with_reducible refine Kd.zC ?_))); (case side4 => exact HC1_1.out); rintro e w' ⟨rfl, ⟨nd, rfl⟩⟩))
        go_ret
        exact ⟨by first | rfl | (simp [errW_none, errW_some] <;> rfl) | (simp [*, errW_none, errW_some] <;> rfl), by repeat (first | (with_reducible first | exact HB.out | apply qF | apply qB | apply qE | refine qD ?_ GE333.out | refine qD ?_ GE334.out) | exact HB.out)⟩
    · replace c6 := Bool.eq_false_iff.mpr c6
      subst c6
      have H1 : (some false) = some r := by rw [if_neg (show ¬ (false = true) by decide)] at H; exact H
      clear H
      have H := H1
      clear H1
      obtain rfl := Option.some.inj H
      go_enter Try.func13, Try.ntmps13
      go_wp2_with (first | ((with_reducible refine zA (N := 2) rfl ?_); refine qU ?hg (N := 2) ?hd (cs := #[.slice A0_0 l0_0.length c0_0, .slice A0_1 l0_1.length c0_1, .int .i64 a0_2, .int .i64 a0_3]) (t := 26) ?hr ?_; (case hd => rfl); (case hg => rfl); (case hr => first | (go_simp; done) | (go_simp; rfl)); intro gb333 hg w18 hbox hb; have n0_ := Aside0.mk (qL (by repeat (first | (with_reducible first | exact HB.out | apply qF | apply qB | apply qE) | exact HB.out)) hb); have n1_ := Aside0.mk (hbox); have n2_ := Aside0.mk ((by rw [hg]; exact (qK (by repeat (first | (with_reducible first | exact HB.out | apply qF | apply qB | apply qE) | exact HB.out))) : w.heap.size ≤ gb333)); have n3_ := Aside0.mk ((by rw [hg]; exact (qK (by repeat (first | (with_reducible first | exact HB.out | apply qF | apply qB | apply qE) | exact HB.out))) : w.heap.size ≤ gb333)); clear HB; have HB := n0_; have BK333 := n1_; have GW333 := n2_; have GE333 := n3_; clear n0_ n1_ n2_ n3_; clear hb hbox hg) | ((with_reducible refine zA (N := 3) rfl ?_); refine qU ?hg (N := 3) ?hd (cs := #[.slice A1_0 l1_0.length c1_0, .slice A1_1 l1_1.length c1_1, .int .i64 a1_2, .int .i64 a1_3]) (t := 26) ?hr ?_; (case hd => rfl); (case hg => rfl); (case hr => first | (go_simp; done) | (go_simp; rfl)); intro gb334 hg w19 hbox hb; have n0_ := Aside0.mk (qJ (g := gb333) (o := .cells #[.slice A0_0 l0_0.length c0_0, .slice A0_1 l0_1.length c0_1, .int .i64 a0_2, .int .i64 a0_3] 26 (0, 0)) (bw_ BK333.out) hb); have n1_ := Aside0.mk (qL (by repeat (first | (with_reducible first | exact HB.out | apply qF | apply qB | apply qE | refine qD ?_ GE333.out) | exact HB.out)) hb); have n2_ := Aside0.mk (hbox); have n3_ := Aside0.mk ((by rw [hg]; exact (qK (by repeat (first | (with_reducible first | exact HB.out | apply qF | apply qB | apply qE | refine qD ?_ GE333.out) | exact HB.out))) : w.heap.size ≤ gb334)); have n4_ := Aside0.mk ((by rw [hg]; exact (qK (by repeat (first | (with_reducible first | exact HB.out | apply qF | apply qB | apply qE | refine qD ?_ GE333.out) | exact HB.out))) : w.heap.size ≤ gb334)); have n5_ := Aside0.mk ((by rw [hg]; exact Nat.ne_of_lt (zF (g := gb333) (o := .cells #[.slice A0_0 l0_0.length c0_0, .slice A0_1 l0_1.length c0_1, .int .i64 a0_2, .int .i64 a0_3] 26 (0, 0)) (bw_ BK333.out)) : gb333 ≠ gb334)); have n6_ := Aside0.mk ((by rw [hg]; exact Nat.ne_of_gt (zF (g := gb333) (o := .cells #[.slice A0_0 l0_0.length c0_0, .slice A0_1 l0_1.length c0_1, .int .i64 a0_2, .int .i64 a0_3] 26 (0, 0)) (bw_ BK333.out)) : gb334 ≠ gb333)); clear BK333; clear HB; have BK333 := n0_; have HB := n1_; have BK334 := n2_; have GW334 := n3_; have GE334 := n4_; have NB333_334 := n5_; have NB334_333 := n6_; clear n0_ n1_ n2_ n3_ n4_ n5_ n6_; clear hb hbox hg; have hnb20 := NB333_334.out; have hnc20 := NB334_333.out; have hcz21_0 : w19.cell? ⟨gb333, 0, none⟩ = some (.slice A0_0 l0_0.length c0_0) := (qA BK333.out 0).trans rfl; have hcz21_1 : w19.cell? ⟨gb333, 1, none⟩ = some (.slice A0_1 l0_1.length c0_1) := (qA BK333.out 1).trans rfl; have hcz21_2 : w19.cell? ⟨gb333, 2, none⟩ = some (.int .i64 a0_2) := (qA BK333.out 2).trans rfl; have hcz21_3 : w19.cell? ⟨gb333, 3, none⟩ = some (.int .i64 a0_3) := (qA BK333.out 3).trans rfl; have hfz21_0 := qC BK333.out 0; have hfz21_1 := qC BK333.out 1; have hfz21_2 := qC BK333.out 2; have hfz21_3 := qC BK333.out 3; have hcz22_0 : w19.cell? ⟨gb334, 0, none⟩ = some (.slice A1_0 l1_0.length c1_0) := (qA BK334.out 0).trans rfl; have hcz22_1 : w19.cell? ⟨gb334, 1, none⟩ = some (.slice A1_1 l1_1.length c1_1) := (qA BK334.out 1).trans rfl; have hcz22_2 : w19.cell? ⟨gb334, 2, none⟩ = some (.int .i64 a1_2) := (qA BK334.out 2).trans rfl; have hcz22_3 : w19.cell? ⟨gb334, 3, none⟩ = some (.int .i64 a1_3) := (qA BK334.out 3).trans rfl; have hfz22_0 := qC BK334.out 0; have hfz22_1 := qC BK334.out 1; have hfz22_2 := qC BK334.out 2; have hfz22_3 := qC BK334.out 3) | ((with_reducible refine qV (f := 19) rfl ?_); refine zL (some 9) rfl rfl Try.func19 (by kernel_rfl) rfl #[.slice A0_0 l0_0.length c0_0, .slice A1_0 l1_0.length c1_0] rfl (by (try simp only [List.map_toArray, List.map_cons, List.map_nil]); first | done | rfl | (simp only [List.length_drop, List.length_take]; rfl)) ?_; (with_reducible refine (laws_jtTexts.calls k _ _ l0_0 _ _ l1_0 true _ ?side1 ?side2 ?side3 ?side4 A3.out).mono ?_); (case side1 => repeat (first | exact (Kd.zK HR0_0.out HB.out) | (with_reducible refine Kd.qX ?_ _) | (with_reducible refine Kd.qY ?_ _) | (with_reducible refine Kd.zC ?_))); (case side2 => exact HC0_0.out); (case side3 => repeat (first | exact (Kd.zK HR1_0.out HB.out) | (with_reducible refine Kd.qX ?_ _) | (with_reducible refine Kd.qY ?_ _) | (with_reducible refine Kd.zC ?_))); (case side4 => exact HC1_0.out); rintro e w' ⟨rfl, ⟨nd, rfl⟩⟩; refine ⟨_, rfl, ?_⟩) | (go_at_call 36; (with_reducible refine (laws_jtWaits.calls k _ _ l0_1 _ _ l1_1 false _ ?side1 ?side2 ?side3 ?side4 A5.out).mono ?_); (case side1 => repeat (first | exact (Kd.zK HR0_1.out (by repeat (first | (with_reducible first | exact HB.out | apply qF | apply qB | apply qE | refine qD ?_ GE333.out | refine qD ?_ GE334.out) | exact HB.out))) | (with_reducible refine Kd.qX ?_ _) | (with_reducible refine Kd.qY ?_ _) | (with_reducible refine Kd.zC ?_))); (case side2 => exact HC0_1.out); (case side3 => repeat (first | exact (Kd.zK HR1_1.out (by repeat (first | (with_reducible first | exact HB.out | apply qF | apply qB | apply qE | refine qD ?_ GE333.out | refine qD ?_ GE334.out) | exact HB.out))) | (with_reducible refine Kd.qX ?_ _) | (with_reducible refine Kd.qY ?_ _) | (with_reducible refine Kd.zC ?_))); (case side4 => exact HC1_1.out); rintro e w' ⟨rfl, ⟨nd, rfl⟩⟩))
      go_ret
      exact ⟨by first | rfl | (simp [errW_none, errW_some] <;> rfl) | (simp [*, errW_none, errW_some] <;> rfl), by repeat (first | (with_reducible first | exact HB.out | apply qF | apply qB | apply qE | refine qD ?_ GE333.out | refine qD ?_ GE334.out) | exact HB.out)⟩
  · replace c4 := Bool.eq_false_iff.mpr c4
    subst c4
    have H1 : (some false) = some r := by rw [if_neg (show ¬ (false = true) by decide)] at H; exact H
    clear H
    have H := H1
    clear H1
    obtain rfl := Option.some.inj H
    go_enter Try.func13, Try.ntmps13
    go_wp2_with (first | ((with_reducible refine zA (N := 2) rfl ?_); refine qU ?hg (N := 2) ?hd (cs := #[.slice A0_0 l0_0.length c0_0, .slice A0_1 l0_1.length c0_1, .int .i64 a0_2, .int .i64 a0_3]) (t := 26) ?hr ?_; (case hd => rfl); (case hg => rfl); (case hr => first | (go_simp; done) | (go_simp; rfl)); intro gb333 hg w23 hbox hb; have n0_ := Aside0.mk (qL (by repeat (first | (with_reducible first | exact HB.out | apply qF | apply qB | apply qE) | exact HB.out)) hb); have n1_ := Aside0.mk (hbox); have n2_ := Aside0.mk ((by rw [hg]; exact (qK (by repeat (first | (with_reducible first | exact HB.out | apply qF | apply qB | apply qE) | exact HB.out))) : w.heap.size ≤ gb333)); have n3_ := Aside0.mk ((by rw [hg]; exact (qK (by repeat (first | (with_reducible first | exact HB.out | apply qF | apply qB | apply qE) | exact HB.out))) : w.heap.size ≤ gb333)); clear HB; have HB := n0_; have BK333 := n1_; have GW333 := n2_; have GE333 := n3_; clear n0_ n1_ n2_ n3_; clear hb hbox hg) | ((with_reducible refine zA (N := 3) rfl ?_); refine qU ?hg (N := 3) ?hd (cs := #[.slice A1_0 l1_0.length c1_0, .slice A1_1 l1_1.length c1_1, .int .i64 a1_2, .int .i64 a1_3]) (t := 26) ?hr ?_; (case hd => rfl); (case hg => rfl); (case hr => first | (go_simp; done) | (go_simp; rfl)); intro gb334 hg w24 hbox hb; have n0_ := Aside0.mk (qJ (g := gb333) (o := .cells #[.slice A0_0 l0_0.length c0_0, .slice A0_1 l0_1.length c0_1, .int .i64 a0_2, .int .i64 a0_3] 26 (0, 0)) (bw_ BK333.out) hb); have n1_ := Aside0.mk (qL (by repeat (first | (with_reducible first | exact HB.out | apply qF | apply qB | apply qE | refine qD ?_ GE333.out) | exact HB.out)) hb); have n2_ := Aside0.mk (hbox); have n3_ := Aside0.mk ((by rw [hg]; exact (qK (by repeat (first | (with_reducible first | exact HB.out | apply qF | apply qB | apply qE | refine qD ?_ GE333.out) | exact HB.out))) : w.heap.size ≤ gb334)); have n4_ := Aside0.mk ((by rw [hg]; exact (qK (by repeat (first | (with_reducible first | exact HB.out | apply qF | apply qB | apply qE | refine qD ?_ GE333.out) | exact HB.out))) : w.heap.size ≤ gb334)); have n5_ := Aside0.mk ((by rw [hg]; exact Nat.ne_of_lt (zF (g := gb333) (o := .cells #[.slice A0_0 l0_0.length c0_0, .slice A0_1 l0_1.length c0_1, .int .i64 a0_2, .int .i64 a0_3] 26 (0, 0)) (bw_ BK333.out)) : gb333 ≠ gb334)); have n6_ := Aside0.mk ((by rw [hg]; exact Nat.ne_of_gt (zF (g := gb333) (o := .cells #[.slice A0_0 l0_0.length c0_0, .slice A0_1 l0_1.length c0_1, .int .i64 a0_2, .int .i64 a0_3] 26 (0, 0)) (bw_ BK333.out)) : gb334 ≠ gb333)); clear BK333; clear HB; have BK333 := n0_; have HB := n1_; have BK334 := n2_; have GW334 := n3_; have GE334 := n4_; have NB333_334 := n5_; have NB334_333 := n6_; clear n0_ n1_ n2_ n3_ n4_ n5_ n6_; clear hb hbox hg; have hnb25 := NB333_334.out; have hnc25 := NB334_333.out; have hcz26_0 : w24.cell? ⟨gb333, 0, none⟩ = some (.slice A0_0 l0_0.length c0_0) := (qA BK333.out 0).trans rfl; have hcz26_1 : w24.cell? ⟨gb333, 1, none⟩ = some (.slice A0_1 l0_1.length c0_1) := (qA BK333.out 1).trans rfl; have hcz26_2 : w24.cell? ⟨gb333, 2, none⟩ = some (.int .i64 a0_2) := (qA BK333.out 2).trans rfl; have hcz26_3 : w24.cell? ⟨gb333, 3, none⟩ = some (.int .i64 a0_3) := (qA BK333.out 3).trans rfl; have hfz26_0 := qC BK333.out 0; have hfz26_1 := qC BK333.out 1; have hfz26_2 := qC BK333.out 2; have hfz26_3 := qC BK333.out 3; have hcz27_0 : w24.cell? ⟨gb334, 0, none⟩ = some (.slice A1_0 l1_0.length c1_0) := (qA BK334.out 0).trans rfl; have hcz27_1 : w24.cell? ⟨gb334, 1, none⟩ = some (.slice A1_1 l1_1.length c1_1) := (qA BK334.out 1).trans rfl; have hcz27_2 : w24.cell? ⟨gb334, 2, none⟩ = some (.int .i64 a1_2) := (qA BK334.out 2).trans rfl; have hcz27_3 : w24.cell? ⟨gb334, 3, none⟩ = some (.int .i64 a1_3) := (qA BK334.out 3).trans rfl; have hfz27_0 := qC BK334.out 0; have hfz27_1 := qC BK334.out 1; have hfz27_2 := qC BK334.out 2; have hfz27_3 := qC BK334.out 3) | ((with_reducible refine qV (f := 19) rfl ?_); refine zL (some 9) rfl rfl Try.func19 (by kernel_rfl) rfl #[.slice A0_0 l0_0.length c0_0, .slice A1_0 l1_0.length c1_0] rfl (by (try simp only [List.map_toArray, List.map_cons, List.map_nil]); first | done | rfl | (simp only [List.length_drop, List.length_take]; rfl)) ?_; (with_reducible refine (laws_jtTexts.calls k _ _ l0_0 _ _ l1_0 false _ ?side1 ?side2 ?side3 ?side4 A3.out).mono ?_); (case side1 => repeat (first | exact (Kd.zK HR0_0.out HB.out) | (with_reducible refine Kd.qX ?_ _) | (with_reducible refine Kd.qY ?_ _) | (with_reducible refine Kd.zC ?_))); (case side2 => exact HC0_0.out); (case side3 => repeat (first | exact (Kd.zK HR1_0.out HB.out) | (with_reducible refine Kd.qX ?_ _) | (with_reducible refine Kd.qY ?_ _) | (with_reducible refine Kd.zC ?_))); (case side4 => exact HC1_0.out); rintro e w' ⟨rfl, ⟨nd, rfl⟩⟩; refine ⟨_, rfl, ?_⟩))
    go_ret
    exact ⟨by first | rfl | (simp [errW_none, errW_some] <;> rfl) | (simp [*, errW_none, errW_some] <;> rfl), by repeat (first | (with_reducible first | exact HB.out | apply qF | apply qB | apply qE | refine qD ?_ GE333.out | refine qD ?_ GE334.out) | exact HB.out)⟩

/-! ### spec_l7Ok: function 37 -/
mutual
def spec_l7Ok.j0 : Nat → Bool → List ByteArray → List (S70) → Int → Int → Option (Bool)
  | 0, _, _, _, _, _ => none
  | k + 1, x24, x338000, x338001, x338002, x338003 => if x24 = true then (some false) else (spec_l7Ok.l0 k 0 x338000 x338001 x338002 x338003)
def spec_l7Ok.l0 : Nat → Int → List ByteArray → List (S70) → Int → Int → Option (Bool)
  | 0, _, _, _, _, _ => none
  | k + 1, x3, x338000, x338001, x338002, x338003 => if x3 < (x338000.length : Int) then (if 0 ≤ x3 then (if ((rdOf ByteArray.empty x338000 x3).size : Int) > 1200 then (some false) else (spec_l7Ok.l0 k (wrap64 (x3 + 1)) x338000 x338001 x338002 x338003)) else (none)) else (spec_l7Ok.l1 k 0 x338000 x338001 x338002 x338003)
def spec_l7Ok.l1 : Nat → Int → List ByteArray → List (S70) → Int → Int → Option (Bool)
  | 0, _, _, _, _, _ => none
  | k + 1, x4, x338000, x338001, x338002, x338003 => if x4 < (x338001.length : Int) then (if 0 ≤ x4 then ((spec_l7Wait.f ((rd_T70 x338001 x4).f0) ((rd_T70 x338001 x4).f1)).bind fun t340 => (if t340 = true then (spec_l7Ok.l1 k (wrap64 (x4 + 1)) x338000 x338001 x338002 x338003) else (some false))) else (none)) else (some true)
end
def spec_l7Ok.f (k : Nat) (l0_0 : List ByteArray) (l0_1 : List (S70)) (a0_2 : Int) (a0_3 : Int) : Option (Bool) := if (l0_0.length : Int) = 42 then (if (l0_1.length : Int) > 100 then (spec_l7Ok.j0 k true l0_0 l0_1 a0_2 a0_3) else (if a0_2 < (-1) then (spec_l7Ok.j0 k true l0_0 l0_1 a0_2 a0_3) else (spec_l7Ok.j0 k (decide (a0_3 < (-1))) l0_0 l0_1 a0_2 a0_3))) else (spec_l7Ok.j0 k true l0_0 l0_1 a0_2 a0_3)
theorem spec_l7Ok.mono_l : ∀ k, (∀ y0 y1 y2 y3 y4, LeO (spec_l7Ok.j0 k y0 y1 y2 y3 y4) (spec_l7Ok.j0 (k + 1) y0 y1 y2 y3 y4)) ∧ (∀ y0 y1 y2 y3 y4, LeO (spec_l7Ok.l0 k y0 y1 y2 y3 y4) (spec_l7Ok.l0 (k + 1) y0 y1 y2 y3 y4)) ∧ (∀ y0 y1 y2 y3 y4, LeO (spec_l7Ok.l1 k y0 y1 y2 y3 y4) (spec_l7Ok.l1 (k + 1) y0 y1 y2 y3 y4))
  | 0 => ⟨fun _ _ _ _ _ r h => by simp [spec_l7Ok.j0] at h, fun _ _ _ _ _ r h => by simp [spec_l7Ok.l0] at h, fun _ _ _ _ _ r h => by simp [spec_l7Ok.l1] at h⟩
  | k + 1 => by
    obtain ⟨ih0, ih1, ih2⟩ := spec_l7Ok.mono_l k
    refine ⟨?_, ?_, ?_⟩
    · intro y0 y1 y2 y3 y4
      unfold spec_l7Ok.j0
      repeat' first
      | (with_reducible exact ih0 _ _ _ _ _)
      | (with_reducible exact ih1 _ _ _ _ _)
      | (with_reducible exact ih2 _ _ _ _ _)
      | (with_reducible exact LeO.refl _)
      | (with_reducible exact LeO.none _)
      | (with_reducible refine LeO.ite ?_ ?_)
      | (with_reducible refine LeO.bind ?_ (fun _ => ?_))
      | exact ih0 _ _ _ _ _
      | exact ih1 _ _ _ _ _
      | exact ih2 _ _ _ _ _
      | exact LeO.none _
      | refine LeO.ite ?_ ?_
      | refine LeO.bind ?_ (fun _ => ?_)
    · intro y0 y1 y2 y3 y4
      unfold spec_l7Ok.l0
      repeat' first
      | (with_reducible exact ih0 _ _ _ _ _)
      | (with_reducible exact ih1 _ _ _ _ _)
      | (with_reducible exact ih2 _ _ _ _ _)
      | (with_reducible exact LeO.refl _)
      | (with_reducible exact LeO.none _)
      | (with_reducible refine LeO.ite ?_ ?_)
      | (with_reducible refine LeO.bind ?_ (fun _ => ?_))
      | exact ih0 _ _ _ _ _
      | exact ih1 _ _ _ _ _
      | exact ih2 _ _ _ _ _
      | exact LeO.none _
      | refine LeO.ite ?_ ?_
      | refine LeO.bind ?_ (fun _ => ?_)
    · intro y0 y1 y2 y3 y4
      unfold spec_l7Ok.l1
      repeat' first
      | (with_reducible exact ih0 _ _ _ _ _)
      | (with_reducible exact ih1 _ _ _ _ _)
      | (with_reducible exact ih2 _ _ _ _ _)
      | (with_reducible exact LeO.refl _)
      | (with_reducible exact LeO.none _)
      | (with_reducible refine LeO.ite ?_ ?_)
      | (with_reducible refine LeO.bind ?_ (fun _ => ?_))
      | exact ih0 _ _ _ _ _
      | exact ih1 _ _ _ _ _
      | exact ih2 _ _ _ _ _
      | exact LeO.none _
      | refine LeO.ite ?_ ?_
      | refine LeO.bind ?_ (fun _ => ?_)
theorem spec_l7Ok.mono : ∀ a0 a1 a2 a3 k, LeO (spec_l7Ok.f k a0 a1 a2 a3) (spec_l7Ok.f (k + 1) a0 a1 a2 a3) := by
  intro a0 a1 a2 a3 k
  obtain ⟨ih0, ih1, ih2⟩ := spec_l7Ok.mono_l k
  unfold spec_l7Ok.f
  repeat' first
      | (with_reducible exact ih0 _ _ _ _ _)
      | (with_reducible exact ih1 _ _ _ _ _)
      | (with_reducible exact ih2 _ _ _ _ _)
      | (with_reducible exact LeO.refl _)
      | (with_reducible exact LeO.none _)
      | (with_reducible refine LeO.ite ?_ ?_)
      | (with_reducible refine LeO.bind ?_ (fun _ => ?_))
      | exact ih0 _ _ _ _ _
      | exact ih1 _ _ _ _ _
      | exact ih2 _ _ _ _ _
      | exact LeO.none _
      | refine LeO.ite ?_ ?_
      | refine LeO.bind ?_ (fun _ => ?_)
set_option maxHeartbeats 8000000 in
set_option maxRecDepth 100000 in
theorem spec_l7Ok.calls (k : Nat) (A0_0 : Option Addr) (c0_0 : Nat) (l0_0 : List ByteArray) (A0_1 : Option Addr) (c0_1 : Nat) (l0_1 : List (S70)) (a0_2 : Int) (a0_3 : Int) (r : Bool) (w : World) (hr0_0 : Kd.C Kd.string w A0_0 l0_0.length l0_0) (hc0_0 : l0_0.length ≤ c0_0) (hr0_1 : Kd.C k70 w A0_1 l0_1.length l0_1) (hc0_1 : l0_1.length ≤ c0_1) (h : spec_l7Ok.f k l0_0 l0_1 a0_2 a0_3 = some r) :
    Calls Try.prog 37 #[.agg #[.slice A0_0 l0_0.length c0_0, .slice A0_1 l0_1.length c0_1, .int .i64 a0_2, .int .i64 a0_3]] w fun e w' => e = .returned (.bool r) ∧ Below w.heap.size w w' := by
  have hu26 := Try.underlying26
  have hu70 := Try.underlying70
  have HR0_0 := Aside0.mk hr0_0
  have HC0_0 := Aside0.mk hc0_0
  clear hr0_0 hc0_0
  have HR0_1 := Aside0.mk hr0_1
  have HC0_1 := Aside0.mk hc0_1
  clear hr0_1 hc0_1
  have HB := Aside0.mk (Below.refl w.heap.size w)
  have H : (if (l0_0.length : Int) = 42 then (if (l0_1.length : Int) > 100 then (spec_l7Ok.j0 k true l0_0 l0_1 a0_2 a0_3) else (if a0_2 < (-1) then (spec_l7Ok.j0 k true l0_0 l0_1 a0_2 a0_3) else (spec_l7Ok.j0 k (decide (a0_3 < (-1))) l0_0 l0_1 a0_2 a0_3))) else (spec_l7Ok.j0 k true l0_0 l0_1 a0_2 a0_3)) = some r := h
  clear h
  have HC2 := Aside0.mk H
  clear H
  go_enter Try.func37, Try.ntmps37
  go_upto_region 1 with (first | ((with_reducible refine zA (N := 1) rfl ?_); refine qU ?hg (N := 1) ?hd (cs := #[.slice A0_0 l0_0.length c0_0, .slice A0_1 l0_1.length c0_1, .int .i64 a0_2, .int .i64 a0_3]) (t := 26) ?hr ?_; (case hd => rfl); (case hg => rfl); (case hr => first | (go_simp; done) | (go_simp; rfl)); intro gb337 hg w3 hbox hb; have n0_ := Aside0.mk (qL (by repeat (first | (with_reducible first | exact HB.out | apply qF | apply qB | apply qE) | exact HB.out)) hb); have n1_ := Aside0.mk (hbox); have n2_ := Aside0.mk ((by rw [hg]; exact (qK (by repeat (first | (with_reducible first | exact HB.out | apply qF | apply qB | apply qE) | exact HB.out))) : w.heap.size ≤ gb337)); have n3_ := Aside0.mk ((by rw [hg]; exact (qK (by repeat (first | (with_reducible first | exact HB.out | apply qF | apply qB | apply qE) | exact HB.out))) : w.heap.size ≤ gb337)); clear HB; have HB := n0_; have BK337 := n1_; have GW337 := n2_; have GE337 := n3_; clear n0_ n1_ n2_ n3_; clear hb hbox hg))
  (try simp only [Act.put, List.setIfInBounds_toArray, List.set_cons_zero, List.set_cons_succ])
  go_cut [24] (fun v24 wc => ∃ (kq : Nat) (x24_1 : Bool), v24 = .bool x24_1 ∧ Aside0 (spec_l7Ok.j0 kq x24_1 l0_0 l0_1 a0_2 a0_3 = some r) ∧ Aside0 (kq ≤ k) ∧ Aside0 (wc.heap[gb337]? = some (.cells #[(.slice A0_0 l0_0.length c0_0), (.slice A0_1 l0_1.length c0_1), .int .i64 a0_2, .int .i64 a0_3] 26 (0, 0))) ∧ Aside0 (Below w.heap.size w wc))
  case first =>
    have H := HC2.out
    clear HC2
    by_cases c4 : (l0_0.length : Int) = 42
    · rw [if_pos c4] at H
      have c4b0 : ((l0_0.length : Int) == 42) = true := beq_iff_eq.mpr c4
      have c4b1 : ((l0_0.length : Int) != 42) = false := bne_eq_false_iff_eq.mpr c4
      clear c4
      (first | rw [c4b0] | (simp only [i64_w, i32_w]; rw [c4b0]) | skip)
      by_cases c5 : (l0_1.length : Int) > 100
      · rw [if_pos c5] at H
        have c5b0 : decide (100 < (l0_1.length : Int)) = true := decide_eq_true c5
        have c5b1 : decide (100 < l0_1.length) = true := decide_eq_true (by omega)
        clear c5
        have H' := Aside0.mk H
        clear H
        have hcz6_0 : w3.cell? ⟨gb337, 0, none⟩ = some (.slice A0_0 l0_0.length c0_0) := (qA BK337.out 0).trans rfl
        have hcz6_1 : w3.cell? ⟨gb337, 1, none⟩ = some (.slice A0_1 l0_1.length c0_1) := (qA BK337.out 1).trans rfl
        have hcz6_2 : w3.cell? ⟨gb337, 2, none⟩ = some (.int .i64 a0_2) := (qA BK337.out 2).trans rfl
        have hcz6_3 : w3.cell? ⟨gb337, 3, none⟩ = some (.int .i64 a0_3) := (qA BK337.out 3).trans rfl
        have hfz6_0 := qC BK337.out 0
        have hfz6_1 := qC BK337.out 1
        have hfz6_2 := qC BK337.out 2
        have hfz6_3 := qC BK337.out 3
        go_wp2
        go_meet
        case rel => exact ⟨_, (true), (by first | rfl | (simp; done) | (simp [*]; done)), H', ⟨by first | omega | exact Nat.le_refl _⟩, ⟨by (with_reducible repeat (first | refine qH ?_ _ | refine qI ?_ | refine qG ?_ _)); exact BK337.out⟩, ⟨by repeat (first | (with_reducible first | exact HB.out | apply qF | apply qB | apply qE | refine qD ?_ GE337.out) | exact HB.out)⟩⟩
      · rw [if_neg c5] at H
        have c5b0 : decide (100 < (l0_1.length : Int)) = false := decide_eq_false c5
        have c5b1 : decide (100 < l0_1.length) = false := decide_eq_false (by omega)
        clear c5
        by_cases c7 : a0_2 < (-1)
        · rw [if_pos c7] at H
          have c7b0 : decide (a0_2 < (-1)) = true := decide_eq_true c7
          clear c7
          have H' := Aside0.mk H
          clear H
          have hcz8_0 : w3.cell? ⟨gb337, 0, none⟩ = some (.slice A0_0 l0_0.length c0_0) := (qA BK337.out 0).trans rfl
          have hcz8_1 : w3.cell? ⟨gb337, 1, none⟩ = some (.slice A0_1 l0_1.length c0_1) := (qA BK337.out 1).trans rfl
          have hcz8_2 : w3.cell? ⟨gb337, 2, none⟩ = some (.int .i64 a0_2) := (qA BK337.out 2).trans rfl
          have hcz8_3 : w3.cell? ⟨gb337, 3, none⟩ = some (.int .i64 a0_3) := (qA BK337.out 3).trans rfl
          have hfz8_0 := qC BK337.out 0
          have hfz8_1 := qC BK337.out 1
          have hfz8_2 := qC BK337.out 2
          have hfz8_3 := qC BK337.out 3
          go_wp2
          go_meet
          case rel => exact ⟨_, (true), (by first | rfl | (simp; done) | (simp [*]; done)), H', ⟨by first | omega | exact Nat.le_refl _⟩, ⟨by (with_reducible repeat (first | refine qH ?_ _ | refine qI ?_ | refine qG ?_ _)); exact BK337.out⟩, ⟨by repeat (first | (with_reducible first | exact HB.out | apply qF | apply qB | apply qE | refine qD ?_ GE337.out) | exact HB.out)⟩⟩
        · rw [if_neg c7] at H
          have c7b0 : decide (a0_2 < (-1)) = false := decide_eq_false c7
          clear c7
          have H' := Aside0.mk H
          clear H
          have hcz9_0 : w3.cell? ⟨gb337, 0, none⟩ = some (.slice A0_0 l0_0.length c0_0) := (qA BK337.out 0).trans rfl
          have hcz9_1 : w3.cell? ⟨gb337, 1, none⟩ = some (.slice A0_1 l0_1.length c0_1) := (qA BK337.out 1).trans rfl
          have hcz9_2 : w3.cell? ⟨gb337, 2, none⟩ = some (.int .i64 a0_2) := (qA BK337.out 2).trans rfl
          have hcz9_3 : w3.cell? ⟨gb337, 3, none⟩ = some (.int .i64 a0_3) := (qA BK337.out 3).trans rfl
          have hfz9_0 := qC BK337.out 0
          have hfz9_1 := qC BK337.out 1
          have hfz9_2 := qC BK337.out 2
          have hfz9_3 := qC BK337.out 3
          go_wp2
          go_meet
          case rel => exact ⟨_, (decide (a0_3 < (-1))), (by first | rfl | (simp; done) | (simp [*]; done)), H', ⟨by first | omega | exact Nat.le_refl _⟩, ⟨by (with_reducible repeat (first | refine qH ?_ _ | refine qI ?_ | refine qG ?_ _)); exact BK337.out⟩, ⟨by repeat (first | (with_reducible first | exact HB.out | apply qF | apply qB | apply qE | refine qD ?_ GE337.out) | exact HB.out)⟩⟩
    · rw [if_neg c4] at H
      have c4b0 : ((l0_0.length : Int) == 42) = false := beq_eq_false_iff_ne.mpr c4
      have c4b1 : ((l0_0.length : Int) != 42) = true := bne_iff_ne.mpr c4
      (first | rw [c4b0] | (simp only [i64_w, i32_w]; rw [c4b0]) | skip)
      have H' := Aside0.mk H
      clear H
      have hcz10_0 : w3.cell? ⟨gb337, 0, none⟩ = some (.slice A0_0 l0_0.length c0_0) := (qA BK337.out 0).trans rfl
      have hcz10_1 : w3.cell? ⟨gb337, 1, none⟩ = some (.slice A0_1 l0_1.length c0_1) := (qA BK337.out 1).trans rfl
      have hcz10_2 : w3.cell? ⟨gb337, 2, none⟩ = some (.int .i64 a0_2) := (qA BK337.out 2).trans rfl
      have hcz10_3 : w3.cell? ⟨gb337, 3, none⟩ = some (.int .i64 a0_3) := (qA BK337.out 3).trans rfl
      have hfz10_0 := qC BK337.out 0
      have hfz10_1 := qC BK337.out 1
      have hfz10_2 := qC BK337.out 2
      have hfz10_3 := qC BK337.out 3
      go_wp2
      go_meet
      case rel => exact ⟨_, (true), (by first | rfl | (simp; done) | (simp [*]; done)), H', ⟨by first | omega | exact Nat.le_refl _⟩, ⟨by (with_reducible repeat (first | refine qH ?_ _ | refine qI ?_ | refine qG ?_ _)); exact BK337.out⟩, ⟨by repeat (first | (with_reducible first | exact HB.out | apply qF | apply qB | apply qE | refine qD ?_ GE337.out) | exact HB.out)⟩⟩
  case rest =>
    clear HC2
    try clear p2
    try clear c3
    try clear c4
    try clear c4b0
    try clear c4b1
    try clear c5
    try clear c5b0
    try clear c5b1
    try clear c7
    try clear c7b0
    try clear hcz10_0
    try clear hcz10_1
    try clear hcz10_2
    try clear hcz10_3
    try clear hcz6_0
    try clear hcz6_1
    try clear hcz6_2
    try clear hcz6_3
    try clear hcz8_0
    try clear hcz8_1
    try clear hcz8_2
    try clear hcz8_3
    try clear hcz9_0
    try clear hcz9_1
    try clear hcz9_2
    try clear hcz9_3
    try clear hfz10_0
    try clear hfz10_1
    try clear hfz10_2
    try clear hfz10_3
    try clear hfz6_0
    try clear hfz6_1
    try clear hfz6_2
    try clear hfz6_3
    try clear hfz8_0
    try clear hfz8_1
    try clear hfz8_2
    try clear hfz8_3
    try clear hfz9_0
    try clear hfz9_1
    try clear hfz9_2
    try clear hfz9_3
    obtain ⟨kq, x24_1, rfl, HA, HJ1, BK337, HB⟩ := hcut
    cases kq with
    | zero => exact absurd HA.out (by simp [spec_l7Ok.j0])
    | succ kj1 =>
      have H := HA.out
      clear HA
      simp only [spec_l7Ok.j0] at H
      by_cases c11 : x24_1 = true
      · subst c11
        have H1 : (some false) = some r := by rw [if_pos rfl] at H; exact H
        clear H
        have H := H1
        clear H1
        obtain rfl := Option.some.inj H
        go_wp2
        go_ret
        exact ⟨by first | rfl | (simp [errW_none, errW_some] <;> rfl) | (simp [*, errW_none, errW_some] <;> rfl), by repeat (first | (with_reducible first | exact HB.out | apply qF | apply qB | apply qE | refine qD ?_ GE337.out) | exact HB.out)⟩
      · replace c11 := Bool.eq_false_iff.mpr c11
        subst c11
        have H1 : (spec_l7Ok.l0 kj1 0 l0_0 l0_1 a0_2 a0_3) = some r := by rw [if_neg (show ¬ (false = true) by decide)] at H; exact H
        clear H
        have H := H1
        clear H1
        have H' := Aside0.mk H
        clear H
        go_wp2
        go_loopg [3] kj1 (fun kq v3 w' => ∃ (x3_2 : Int), v3 = .int .i64 x3_2 ∧ Aside0 (spec_l7Ok.l0 kq x3_2 l0_0 l0_1 a0_2 a0_3 = some r) ∧ Aside0 (kq ≤ kj1) ∧ Aside0 (w'.heap[gb337]? = some (.cells #[(.slice A0_0 l0_0.length c0_0), (.slice A0_1 l0_1.length c0_1), .int .i64 a0_2, .int .i64 a0_3] 26 (0, 0))) ∧ Aside0 (Below w.heap.size w w'))
        case atStart => exact ⟨(0), (by first | rfl | (simp; done) | (simp [*]; done)), H', ⟨Nat.le_refl _⟩, ⟨by (with_reducible repeat (first | refine qH ?_ _ | refine qI ?_ | refine qG ?_ _)); exact BK337.out⟩, ⟨by repeat (first | (with_reducible first | exact HB.out | apply qF | apply qB | apply qE | refine qD ?_ GE337.out) | exact HB.out)⟩⟩
        case round =>
          clear H'
          try clear c1
          try clear p2
          try clear c3
          try clear c4
          try clear c4b0
          try clear c4b1
          try clear c5
          try clear c5b0
          try clear c5b1
          try clear c7
          try clear c7b0
          try clear c11
          try clear hcz10_0
          try clear hcz10_1
          try clear hcz10_2
          try clear hcz10_3
          try clear hcz6_0
          try clear hcz6_1
          try clear hcz6_2
          try clear hcz6_3
          try clear hcz8_0
          try clear hcz8_1
          try clear hcz8_2
          try clear hcz8_3
          try clear hcz9_0
          try clear hcz9_1
          try clear hcz9_2
          try clear hcz9_3
          try clear hfz10_0
          try clear hfz10_1
          try clear hfz10_2
          try clear hfz10_3
          try clear hfz6_0
          try clear hfz6_1
          try clear hfz6_2
          try clear hfz6_3
          try clear hfz8_0
          try clear hfz8_1
          try clear hfz8_2
          try clear hfz8_3
          try clear hfz9_0
          try clear hfz9_1
          try clear hfz9_2
          try clear hfz9_3
          try clear p2
          obtain ⟨x3_2, rfl, HA, HK2, BK337, HB⟩ := hrel
          cases gk with
          | zero => exact absurd HA.out (by simp [spec_l7Ok.l0])
          | succ k2 =>
            have H := HA.out
            clear HA
            simp only [spec_l7Ok.l0] at H
            by_cases c12 : x3_2 < (l0_0.length : Int)
            · rw [if_pos c12] at H
              have c12b0 : decide (x3_2 < (l0_0.length : Int)) = true := decide_eq_true c12
              clear c12
              by_cases c13 : 0 ≤ x3_2
              · rw [if_pos c13] at H
                have c13b0 : decide (0 ≤ x3_2) = true := decide_eq_true c13
                clear c13
                by_cases c14 : ((rdOf ByteArray.empty l0_0 x3_2).size : Int) > 1200
                · rw [if_pos c14] at H
                  have c14b0 : decide (1200 < ((rdOf ByteArray.empty l0_0 x3_2).size : Int)) = true := decide_eq_true c14
                  have c14b1 : decide (1200 < (rdOf ByteArray.empty l0_0 x3_2).size) = true := decide_eq_true (by omega)
                  clear c14
                  obtain rfl := Option.some.inj H
                  have hcz15_0 : wr.cell? ⟨gb337, 0, none⟩ = some (.slice A0_0 l0_0.length c0_0) := (qA BK337.out 0).trans rfl
                  have hcz15_1 : wr.cell? ⟨gb337, 1, none⟩ = some (.slice A0_1 l0_1.length c0_1) := (qA BK337.out 1).trans rfl
                  have hcz15_2 : wr.cell? ⟨gb337, 2, none⟩ = some (.int .i64 a0_2) := (qA BK337.out 2).trans rfl
                  have hcz15_3 : wr.cell? ⟨gb337, 3, none⟩ = some (.int .i64 a0_3) := (qA BK337.out 3).trans rfl
                  have hfz15_0 := qC BK337.out 0
                  have hfz15_1 := qC BK337.out 1
                  have hfz15_2 := qC BK337.out 2
                  have hfz15_3 := qC BK337.out 3
                  have p338 : 0 ≤ (x3_2 : Int) := of_decide_eq_true (by first | (with_reducible assumption) | assumption)
                  have q338 : x3_2 < (l0_0.length : Int) := of_decide_eq_true (by first | (with_reducible assumption) | assumption)
                  obtain ⟨ad338, e338, hx338_0⟩ := Kd.at_string HR0_0.out x3_2 p338 q338
                  cases e338
                  replace hx338_0 := (HB.out.cell (World.block_lt_of_cell? w _ hx338_0)).trans hx338_0
                  replace p338 := eq_true p338
                  replace q338 := eq_true q338
                  go_wp2
                  go_ret
                  exact ⟨by first | rfl | (simp [errW_none, errW_some] <;> rfl) | (simp [*, errW_none, errW_some] <;> rfl), by repeat (first | (with_reducible first | exact HB.out | apply qF | apply qB | apply qE | refine qD ?_ GE337.out) | exact HB.out)⟩
                · rw [if_neg c14] at H
                  have c14b0 : decide (1200 < ((rdOf ByteArray.empty l0_0 x3_2).size : Int)) = false := decide_eq_false c14
                  have c14b1 : decide (1200 < (rdOf ByteArray.empty l0_0 x3_2).size) = false := decide_eq_false (by omega)
                  clear c14
                  have H' := Aside0.mk H
                  clear H
                  have hcz16_0 : wr.cell? ⟨gb337, 0, none⟩ = some (.slice A0_0 l0_0.length c0_0) := (qA BK337.out 0).trans rfl
                  have hcz16_1 : wr.cell? ⟨gb337, 1, none⟩ = some (.slice A0_1 l0_1.length c0_1) := (qA BK337.out 1).trans rfl
                  have hcz16_2 : wr.cell? ⟨gb337, 2, none⟩ = some (.int .i64 a0_2) := (qA BK337.out 2).trans rfl
                  have hcz16_3 : wr.cell? ⟨gb337, 3, none⟩ = some (.int .i64 a0_3) := (qA BK337.out 3).trans rfl
                  have hfz16_0 := qC BK337.out 0
                  have hfz16_1 := qC BK337.out 1
                  have hfz16_2 := qC BK337.out 2
                  have hfz16_3 := qC BK337.out 3
                  have p338 : 0 ≤ (x3_2 : Int) := of_decide_eq_true (by first | (with_reducible assumption) | assumption)
                  have q338 : x3_2 < (l0_0.length : Int) := of_decide_eq_true (by first | (with_reducible assumption) | assumption)
                  obtain ⟨ad338, e338, hx338_0⟩ := Kd.at_string HR0_0.out x3_2 p338 q338
                  cases e338
                  replace hx338_0 := (HB.out.cell (World.block_lt_of_cell? w _ hx338_0)).trans hx338_0
                  replace p338 := eq_true p338
                  replace q338 := eq_true q338
                  go_wp2
                  go_roundg k2
                  case measure => have := HJ1.out; have := HK2.out; omega
                  case rel => exact ⟨(wrap64 (x3_2 + 1)), (by first | rfl | (simp; done) | (simp [*]; done)), H', ⟨by have := HJ1.out; have := HK2.out; omega⟩, ⟨by (with_reducible repeat (first | refine qH ?_ _ | refine qI ?_ | refine qG ?_ _)); exact BK337.out⟩, ⟨by repeat (first | (with_reducible first | exact HB.out | apply qF | apply qB | apply qE | refine qD ?_ GE337.out) | exact HB.out)⟩⟩
              · rw [if_neg c13] at H
                exact absurd H (by simp)
            · rw [if_neg c12] at H
              have c12b0 : decide (x3_2 < (l0_0.length : Int)) = false := decide_eq_false c12
              clear c12
              have H' := Aside0.mk H
              clear H
              have hcz17_0 : wr.cell? ⟨gb337, 0, none⟩ = some (.slice A0_0 l0_0.length c0_0) := (qA BK337.out 0).trans rfl
              have hcz17_1 : wr.cell? ⟨gb337, 1, none⟩ = some (.slice A0_1 l0_1.length c0_1) := (qA BK337.out 1).trans rfl
              have hcz17_2 : wr.cell? ⟨gb337, 2, none⟩ = some (.int .i64 a0_2) := (qA BK337.out 2).trans rfl
              have hcz17_3 : wr.cell? ⟨gb337, 3, none⟩ = some (.int .i64 a0_3) := (qA BK337.out 3).trans rfl
              have hfz17_0 := qC BK337.out 0
              have hfz17_1 := qC BK337.out 1
              have hfz17_2 := qC BK337.out 2
              have hfz17_3 := qC BK337.out 3
              go_wp2
              go_loopg [4] k2 (fun kq v4 w' => ∃ (x4_3 : Int), v4 = .int .i64 x4_3 ∧ Aside0 (spec_l7Ok.l1 kq x4_3 l0_0 l0_1 a0_2 a0_3 = some r) ∧ Aside0 (kq ≤ k2) ∧ Aside0 (w'.heap[gb337]? = some (.cells #[(.slice A0_0 l0_0.length c0_0), (.slice A0_1 l0_1.length c0_1), .int .i64 a0_2, .int .i64 a0_3] 26 (0, 0))) ∧ Aside0 (Below w.heap.size w w'))
              case atStart => exact ⟨(0), (by first | rfl | (simp; done) | (simp [*]; done)), H', ⟨Nat.le_refl _⟩, ⟨by (with_reducible repeat (first | refine qH ?_ _ | refine qI ?_ | refine qG ?_ _)); exact BK337.out⟩, ⟨by repeat (first | (with_reducible first | exact HB.out | apply qF | apply qB | apply qE | refine qD ?_ GE337.out) | exact HB.out)⟩⟩
              case round =>
                clear H'
                try clear c1
                try clear p2
                try clear c3
                try clear p3
                try clear q3
                try clear hx3
                try clear c4
                try clear c4b0
                try clear c4b1
                try clear c5
                try clear c5b0
                try clear c5b1
                try clear p6
                try clear c7
                try clear c7b0
                try clear c11
                try clear c12
                try clear c12b0
                try clear c13
                try clear c13b0
                try clear c14
                try clear c14b0
                try clear c14b1
                try clear hcz10_0
                try clear hcz10_1
                try clear hcz10_2
                try clear hcz10_3
                try clear hcz15_0
                try clear hcz15_1
                try clear hcz15_2
                try clear hcz15_3
                try clear hcz16_0
                try clear hcz16_1
                try clear hcz16_2
                try clear hcz16_3
                try clear hcz17_0
                try clear hcz17_1
                try clear hcz17_2
                try clear hcz17_3
                try clear hcz6_0
                try clear hcz6_1
                try clear hcz6_2
                try clear hcz6_3
                try clear hcz8_0
                try clear hcz8_1
                try clear hcz8_2
                try clear hcz8_3
                try clear hcz9_0
                try clear hcz9_1
                try clear hcz9_2
                try clear hcz9_3
                try clear hfz10_0
                try clear hfz10_1
                try clear hfz10_2
                try clear hfz10_3
                try clear hfz15_0
                try clear hfz15_1
                try clear hfz15_2
                try clear hfz15_3
                try clear hfz16_0
                try clear hfz16_1
                try clear hfz16_2
                try clear hfz16_3
                try clear hfz17_0
                try clear hfz17_1
                try clear hfz17_2
                try clear hfz17_3
                try clear hfz6_0
                try clear hfz6_1
                try clear hfz6_2
                try clear hfz6_3
                try clear hfz8_0
                try clear hfz8_1
                try clear hfz8_2
                try clear hfz8_3
                try clear hfz9_0
                try clear hfz9_1
                try clear hfz9_2
                try clear hfz9_3
                try clear hx338_0
                try clear p2
                try clear p338
                try clear q338
                obtain ⟨x4_3, rfl, HA, HK3, BK337, HB⟩ := hrel
                cases gk with
                | zero => exact absurd HA.out (by simp [spec_l7Ok.l1])
                | succ k3 =>
                  have H := HA.out
                  clear HA
                  simp only [spec_l7Ok.l1] at H
                  by_cases c18 : x4_3 < (l0_1.length : Int)
                  · rw [if_pos c18] at H
                    have c18b0 : decide (x4_3 < (l0_1.length : Int)) = true := decide_eq_true c18
                    clear c18
                    by_cases c19 : 0 ≤ x4_3
                    · rw [if_pos c19] at H
                      have c19b0 : decide (0 ≤ x4_3) = true := decide_eq_true c19
                      clear c19
                      replace H := Option.bind_eq_some_iff.mp H
                      obtain ⟨t340, A200, H⟩ := H
                      replace H : (if t340 = true then (spec_l7Ok.l1 k3 (wrap64 (x4_3 + 1)) l0_0 l0_1 a0_2 a0_3) else (some false)) = some r := H
                      have A20 := Aside0.mk A200
                      clear A200
                      by_cases c21 : t340 = true
                      · subst c21
                        have H1 : (spec_l7Ok.l1 k3 (wrap64 (x4_3 + 1)) l0_0 l0_1 a0_2 a0_3) = some r := by rw [if_pos rfl] at H; exact H
                        clear H
                        have H := H1
                        clear H1
                        have H' := Aside0.mk H
                        clear H
                        have hcz22_0 : wr.cell? ⟨gb337, 0, none⟩ = some (.slice A0_0 l0_0.length c0_0) := (qA BK337.out 0).trans rfl
                        have hcz22_1 : wr.cell? ⟨gb337, 1, none⟩ = some (.slice A0_1 l0_1.length c0_1) := (qA BK337.out 1).trans rfl
                        have hcz22_2 : wr.cell? ⟨gb337, 2, none⟩ = some (.int .i64 a0_2) := (qA BK337.out 2).trans rfl
                        have hcz22_3 : wr.cell? ⟨gb337, 3, none⟩ = some (.int .i64 a0_3) := (qA BK337.out 3).trans rfl
                        have hfz22_0 := qC BK337.out 0
                        have hfz22_1 := qC BK337.out 1
                        have hfz22_2 := qC BK337.out 2
                        have hfz22_3 := qC BK337.out 3
                        have p339 : 0 ≤ (x4_3 : Int) := of_decide_eq_true (by first | (with_reducible assumption) | assumption)
                        have q339 : x4_3 < (l0_1.length : Int) := of_decide_eq_true (by first | (with_reducible assumption) | assumption)
                        obtain ⟨ad339, e339, hx339_0, hx339_1⟩ := at_T70 HR0_1.out x4_3 p339 q339
                        cases e339
                        replace hx339_0 := (HB.out.cell (World.block_lt_of_cell? w _ hx339_0)).trans hx339_0
                        replace hx339_1 := (HB.out.cell (World.block_lt_of_cell? w _ hx339_1)).trans hx339_1
                        replace p339 := eq_true p339
                        replace q339 := eq_true q339
                        go_wp2_with (first | ((with_reducible refine qV (f := 67) rfl ?_); refine zL (some 51) rfl rfl Try.func67 (by kernel_rfl) rfl #[.agg #[.int .i64 ((rd_T70 l0_1 x4_3).f0), .string ((rd_T70 l0_1 x4_3).f1)]] rfl (by (try simp only [List.map_toArray, List.map_cons, List.map_nil]); first | done | rfl | (simp only [List.length_drop, List.length_take]; rfl)) ?_; (with_reducible refine (spec_l7Wait.calls ((rd_T70 l0_1 x4_3).f0) ((rd_T70 l0_1 x4_3).f1) true _ A20.out).mono ?_); rintro e w23 ⟨rfl, hb⟩; refine ⟨_, rfl, ?_⟩; have n0_ := Aside0.mk (qJ (g := gb337) (o := .cells #[.slice A0_0 l0_0.length c0_0, .slice (some ad339) l0_1.length c0_1, .int .i64 a0_2, .int .i64 a0_3] 26 (0, 0)) (bw_ BK337.out) hb); have n1_ := Aside0.mk (qL (by repeat (first | (with_reducible first | exact HB.out | apply qF | apply qB | apply qE | refine qD ?_ GE337.out) | exact HB.out)) hb); clear BK337; clear HB; have BK337 := n0_; have HB := n1_; clear n0_ n1_; (try clear hb); (try clear hb2); (try clear hk); (try clear hi)))
                        go_roundg k3
                        case measure => have := HJ1.out; have := HK2.out; have := HK3.out; omega
                        case rel => exact ⟨(wrap64 (x4_3 + 1)), (by first | rfl | (simp; done) | (simp [*]; done)), H', ⟨by have := HJ1.out; have := HK2.out; have := HK3.out; omega⟩, ⟨by (with_reducible repeat (first | refine qH ?_ _ | refine qI ?_ | refine qG ?_ _)); exact BK337.out⟩, ⟨by repeat (first | (with_reducible first | exact HB.out | apply qF | apply qB | apply qE | refine qD ?_ GE337.out) | exact HB.out)⟩⟩
                      · replace c21 := Bool.eq_false_iff.mpr c21
                        subst c21
                        have H1 : (some false) = some r := by rw [if_neg (show ¬ (false = true) by decide)] at H; exact H
                        clear H
                        have H := H1
                        clear H1
                        obtain rfl := Option.some.inj H
                        have hcz24_0 : wr.cell? ⟨gb337, 0, none⟩ = some (.slice A0_0 l0_0.length c0_0) := (qA BK337.out 0).trans rfl
                        have hcz24_1 : wr.cell? ⟨gb337, 1, none⟩ = some (.slice A0_1 l0_1.length c0_1) := (qA BK337.out 1).trans rfl
                        have hcz24_2 : wr.cell? ⟨gb337, 2, none⟩ = some (.int .i64 a0_2) := (qA BK337.out 2).trans rfl
                        have hcz24_3 : wr.cell? ⟨gb337, 3, none⟩ = some (.int .i64 a0_3) := (qA BK337.out 3).trans rfl
                        have hfz24_0 := qC BK337.out 0
                        have hfz24_1 := qC BK337.out 1
                        have hfz24_2 := qC BK337.out 2
                        have hfz24_3 := qC BK337.out 3
                        have p339 : 0 ≤ (x4_3 : Int) := of_decide_eq_true (by first | (with_reducible assumption) | assumption)
                        have q339 : x4_3 < (l0_1.length : Int) := of_decide_eq_true (by first | (with_reducible assumption) | assumption)
                        obtain ⟨ad339, e339, hx339_0, hx339_1⟩ := at_T70 HR0_1.out x4_3 p339 q339
                        cases e339
                        replace hx339_0 := (HB.out.cell (World.block_lt_of_cell? w _ hx339_0)).trans hx339_0
                        replace hx339_1 := (HB.out.cell (World.block_lt_of_cell? w _ hx339_1)).trans hx339_1
                        replace p339 := eq_true p339
                        replace q339 := eq_true q339
                        go_wp2_with (first | ((with_reducible refine qV (f := 67) rfl ?_); refine zL (some 51) rfl rfl Try.func67 (by kernel_rfl) rfl #[.agg #[.int .i64 ((rd_T70 l0_1 x4_3).f0), .string ((rd_T70 l0_1 x4_3).f1)]] rfl (by (try simp only [List.map_toArray, List.map_cons, List.map_nil]); first | done | rfl | (simp only [List.length_drop, List.length_take]; rfl)) ?_; (with_reducible refine (spec_l7Wait.calls ((rd_T70 l0_1 x4_3).f0) ((rd_T70 l0_1 x4_3).f1) false _ A20.out).mono ?_); rintro e w25 ⟨rfl, hb⟩; refine ⟨_, rfl, ?_⟩; have n0_ := Aside0.mk (qJ (g := gb337) (o := .cells #[.slice A0_0 l0_0.length c0_0, .slice (some ad339) l0_1.length c0_1, .int .i64 a0_2, .int .i64 a0_3] 26 (0, 0)) (bw_ BK337.out) hb); have n1_ := Aside0.mk (qL (by repeat (first | (with_reducible first | exact HB.out | apply qF | apply qB | apply qE | refine qD ?_ GE337.out) | exact HB.out)) hb); clear BK337; clear HB; have BK337 := n0_; have HB := n1_; clear n0_ n1_; (try clear hb); (try clear hb2); (try clear hk); (try clear hi)))
                        go_ret
                        exact ⟨by first | rfl | (simp [errW_none, errW_some] <;> rfl) | (simp [*, errW_none, errW_some] <;> rfl), by repeat (first | (with_reducible first | exact HB.out | apply qF | apply qB | apply qE | refine qD ?_ GE337.out) | exact HB.out)⟩
                    · rw [if_neg c19] at H
                      exact absurd H (by simp)
                  · rw [if_neg c18] at H
                    have c18b0 : decide (x4_3 < (l0_1.length : Int)) = false := decide_eq_false c18
                    clear c18
                    obtain rfl := Option.some.inj H
                    have hcz26_0 : wr.cell? ⟨gb337, 0, none⟩ = some (.slice A0_0 l0_0.length c0_0) := (qA BK337.out 0).trans rfl
                    have hcz26_1 : wr.cell? ⟨gb337, 1, none⟩ = some (.slice A0_1 l0_1.length c0_1) := (qA BK337.out 1).trans rfl
                    have hcz26_2 : wr.cell? ⟨gb337, 2, none⟩ = some (.int .i64 a0_2) := (qA BK337.out 2).trans rfl
                    have hcz26_3 : wr.cell? ⟨gb337, 3, none⟩ = some (.int .i64 a0_3) := (qA BK337.out 3).trans rfl
                    have hfz26_0 := qC BK337.out 0
                    have hfz26_1 := qC BK337.out 1
                    have hfz26_2 := qC BK337.out 2
                    have hfz26_3 := qC BK337.out 3
                    go_wp2
                    go_ret
                    exact ⟨by first | rfl | (simp [errW_none, errW_some] <;> rfl) | (simp [*, errW_none, errW_some] <;> rfl), by repeat (first | (with_reducible first | exact HB.out | apply qF | apply qB | apply qE | refine qD ?_ GE337.out) | exact HB.out)⟩

end Go.Proofs.Ytepihebkdnmppaa.Ai
