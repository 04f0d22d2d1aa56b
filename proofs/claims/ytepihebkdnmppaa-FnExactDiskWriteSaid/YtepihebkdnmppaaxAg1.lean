/- Walks of the seat's functions, written by a program of this session (xprint.py) with the kit's printer: each call comes to just what its Lean function says. -/
import Derived.Test.YtepihebkdnmppaaxAg0
namespace Go.Proofs.Ytepihebkdnmppaa.Ag
open Go.RowKit Go.Proofs.YtepihebkdnmppaaV.PrintWords Go.Proofs.YtepihebkdnmppaaV.PrintLast Go.Proofs.YtepihebkdnmppaaV.PrintMore
attribute [local go_sem] xB xC max_two min_two zT zU xD xE   -- for this text's walks alone
attribute [local go_sem high] World.zH
set_option linter.unusedVariables false
set_option linter.unusedSimpArgs false

/-! ### impl_DiskOk_1: function 48 -/
def impl_DiskOk_1.f (a0 : ByteArray) : Option (Bool) := some (decide ((a0.size : Int) > 1200))
set_option maxHeartbeats 8000000 in
set_option maxRecDepth 100000 in
theorem impl_DiskOk_1.calls (a0 : ByteArray) (r : Bool) (w : World) (h : impl_DiskOk_1.f a0 = some r) :
    Calls Try.prog 48 #[.string a0] w fun e w' => e = .returned (.bool r) ∧ Drawn0 w w' := by
  have H : (some (decide ((a0.size : Int) > 1200))) = some r := h
  clear h
  obtain rfl := Option.some.inj H
  go_enter Try.func48, Try.ntmps48
  go_wp2
  go_ret
  exact ⟨by first | rfl | (simp; done) | (simp [*]; done), by repeat (first | exact Drawn0.refl _ | apply Drawn0.step)⟩

/-! ### impl_in: function 70 -/
def impl_in.f (a0 : Int) (a1 : Int) (a2 : Int) : Option (Bool) := if a0 ≥ a1 then (some (decide (a0 ≤ a2))) else (some false)
set_option maxHeartbeats 8000000 in
set_option maxRecDepth 100000 in
theorem impl_in.calls (a0 : Int) (a1 : Int) (a2 : Int) (r : Bool) (w : World) (h : impl_in.f a0 a1 a2 = some r) :
    Calls Try.prog 70 #[.int .i64 a0, .int .i64 a1, .int .i64 a2] w fun e w' => e = .returned (.bool r) ∧ Drawn0 w w' := by
  have H : (if a0 ≥ a1 then (some (decide (a0 ≤ a2))) else (some false)) = some r := h
  clear h
  by_cases c4 : a0 ≥ a1
  · rw [if_pos c4] at H
    have c4b0 : decide (a1 ≤ a0) = true := decide_eq_true c4
    clear c4
    obtain rfl := Option.some.inj H
    go_enter Try.func70, Try.ntmps70
    go_wp2
    go_ret
    exact ⟨by first | rfl | (simp; done) | (simp [*]; done), by repeat (first | exact Drawn0.refl _ | apply Drawn0.step)⟩
  · rw [if_neg c4] at H
    have c4b0 : decide (a1 ≤ a0) = false := decide_eq_false c4
    clear c4
    obtain rfl := Option.some.inj H
    go_enter Try.func70, Try.ntmps70
    go_wp2
    go_ret
    exact ⟨by first | rfl | (simp; done) | (simp [*]; done), by repeat (first | exact Drawn0.refl _ | apply Drawn0.step)⟩

/-! ### impl_isCell: function 45 -/
def impl_isCell.f (a0 : Int) : Option (Bool) := (impl_in.f a0 0 41).bind fun t101 => (some t101)
set_option maxHeartbeats 8000000 in
set_option maxRecDepth 100000 in
theorem impl_isCell.calls (a0 : Int) (r : Bool) (w : World) (h : impl_isCell.f a0 = some r) :
    Calls Try.prog 45 #[.int .i64 a0] w fun e w' => e = .returned (.bool r) ∧ Drawn0 w w' := by
  have H : ((impl_in.f a0 0 41).bind fun t101 => (some t101)) = some r := h
  clear h
  replace H := Option.bind_eq_some_iff.mp H
  obtain ⟨t101, A20, H⟩ := H
  replace H : (some t101) = some r := H
  have A2 := Aside0.mk A20
  clear A20
  obtain rfl := Option.some.inj H
  go_enter Try.func45, Try.ntmps45
  go_wp2_with (first | ((with_reducible refine qT (f := 70) rfl ?_); refine zD (some 4) rfl rfl Try.func70 (by kernel_rfl) rfl #[.int .i64 a0, .int .i64 0, .int .i64 41] rfl (by (try simp only [List.map_toArray, List.map_cons, List.map_nil]); first | done | rfl | (simp only [List.length_drop, List.length_take]; rfl)) ?_; (with_reducible refine (impl_in.calls a0 0 41 t101 _ A2.out).mono ?_); rintro e w' ⟨rfl, ⟨nd, rfl⟩⟩; refine ⟨_, rfl, ?_⟩))
  go_ret
  exact ⟨by first | rfl | (simp; done) | (simp [*]; done), by repeat (first | exact Drawn0.refl _ | apply Drawn0.step)⟩

/-! ### impl_DiskOk_2: function 50 -/
def impl_DiskOk_2.f (a0_0 : Int) (a0_1 : ByteArray) : Option (Bool) := (impl_isCell.f a0_0).bind fun t103 => (if t103 = true then (some (decide ((a0_1.size : Int) > 1200))) else (some true))
set_option maxHeartbeats 8000000 in
set_option maxRecDepth 100000 in
theorem impl_DiskOk_2.calls (a0_0 : Int) (a0_1 : ByteArray) (r : Bool) (w : World) (h : impl_DiskOk_2.f a0_0 a0_1 = some r) :
    Calls Try.prog 50 #[.agg #[.int .i64 a0_0, .string a0_1]] w fun e w' => e = .returned (.bool r) ∧ Below w.heap.size w w' := by
  have hu70 := Try.underlying70
  have HB := Aside0.mk (Below.refl w.heap.size w)
  have H : ((impl_isCell.f a0_0).bind fun t103 => (if t103 = true then (some (decide ((a0_1.size : Int) > 1200))) else (some true))) = some r := h
  clear h
  replace H := Option.bind_eq_some_iff.mp H
  obtain ⟨t103, A20, H⟩ := H
  replace H : (if t103 = true then (some (decide ((a0_1.size : Int) > 1200))) else (some true)) = some r := H
  have A2 := Aside0.mk A20
  clear A20
  by_cases c3 : t103 = true
  · subst c3
    have H1 : (some (decide ((a0_1.size : Int) > 1200))) = some r := by rw [if_pos rfl] at H; exact H
    clear H
    have H := H1
    clear H1
    obtain rfl := Option.some.inj H
    go_enter Try.func50, Try.ntmps50
    go_wp2_with (first | ((with_reducible refine qX (N := 1) rfl ?_); refine qW ?hg (N := 1) ?hd (cs := #[.int .i64 a0_0, .string a0_1]) (t := 70) ?hr ?_; (case hd => rfl); (case hg => rfl); (case hr => first | (go_simp; done) | (go_simp; rfl)); intro gb102 hg w4 hbox hb; have n0_ := Aside0.mk (qO (by repeat (first | (with_reducible first | exact HB.out | apply qH | apply qA | apply qG) | exact HB.out)) hb); have n1_ := Aside0.mk (hbox); have n2_ := Aside0.mk ((by rw [hg]; exact (qM (by repeat (first | (with_reducible first | exact HB.out | apply qH | apply qA | apply qG) | exact HB.out))) : w.heap.size ≤ gb102)); have n3_ := Aside0.mk ((by rw [hg]; exact (qM (by repeat (first | (with_reducible first | exact HB.out | apply qH | apply qA | apply qG) | exact HB.out))) : w.heap.size ≤ gb102)); clear HB; have HB := n0_; have BK102 := n1_; have GW102 := n2_; have GE102 := n3_; clear n0_ n1_ n2_ n3_; clear hb hbox hg; have hcz5_0 : w4.cell? ⟨gb102, 0, none⟩ = some (.int .i64 a0_0) := (qC BK102.out 0).trans rfl; have hcz5_1 : w4.cell? ⟨gb102, 1, none⟩ = some (.string a0_1) := (qC BK102.out 1).trans rfl; have hfz5_0 := qB BK102.out 0; have hfz5_1 := qB BK102.out 1) | ((with_reducible refine qT (f := 45) rfl ?_); refine zD (some 5) rfl rfl Try.func45 (by kernel_rfl) rfl #[.int .i64 a0_0] rfl (by (try simp only [List.map_toArray, List.map_cons, List.map_nil]); first | done | rfl | (simp only [List.length_drop, List.length_take]; rfl)) ?_; (with_reducible refine (impl_isCell.calls a0_0 true _ A2.out).mono ?_); rintro e w' ⟨rfl, ⟨nd, rfl⟩⟩; refine ⟨_, rfl, ?_⟩))
    go_ret
    exact ⟨by first | rfl | (simp [errW_none, errW_some] <;> rfl) | (simp [*, errW_none, errW_some] <;> rfl), by repeat (first | (with_reducible first | exact HB.out | apply qH | apply qA | apply qG | refine qF ?_ GE102.out) | exact HB.out)⟩
  · replace c3 := Bool.eq_false_iff.mpr c3
    subst c3
    have H1 : (some true) = some r := by rw [if_neg (show ¬ (false = true) by decide)] at H; exact H
    clear H
    have H := H1
    clear H1
    obtain rfl := Option.some.inj H
    go_enter Try.func50, Try.ntmps50
    go_wp2_with (first | ((with_reducible refine qX (N := 1) rfl ?_); refine qW ?hg (N := 1) ?hd (cs := #[.int .i64 a0_0, .string a0_1]) (t := 70) ?hr ?_; (case hd => rfl); (case hg => rfl); (case hr => first | (go_simp; done) | (go_simp; rfl)); intro gb102 hg w6 hbox hb; have n0_ := Aside0.mk (qO (by repeat (first | (with_reducible first | exact HB.out | apply qH | apply qA | apply qG) | exact HB.out)) hb); have n1_ := Aside0.mk (hbox); have n2_ := Aside0.mk ((by rw [hg]; exact (qM (by repeat (first | (with_reducible first | exact HB.out | apply qH | apply qA | apply qG) | exact HB.out))) : w.heap.size ≤ gb102)); have n3_ := Aside0.mk ((by rw [hg]; exact (qM (by repeat (first | (with_reducible first | exact HB.out | apply qH | apply qA | apply qG) | exact HB.out))) : w.heap.size ≤ gb102)); clear HB; have HB := n0_; have BK102 := n1_; have GW102 := n2_; have GE102 := n3_; clear n0_ n1_ n2_ n3_; clear hb hbox hg; have hcz7_0 : w6.cell? ⟨gb102, 0, none⟩ = some (.int .i64 a0_0) := (qC BK102.out 0).trans rfl; have hcz7_1 : w6.cell? ⟨gb102, 1, none⟩ = some (.string a0_1) := (qC BK102.out 1).trans rfl; have hfz7_0 := qB BK102.out 0; have hfz7_1 := qB BK102.out 1) | ((with_reducible refine qT (f := 45) rfl ?_); refine zD (some 5) rfl rfl Try.func45 (by kernel_rfl) rfl #[.int .i64 a0_0] rfl (by (try simp only [List.map_toArray, List.map_cons, List.map_nil]); first | done | rfl | (simp only [List.length_drop, List.length_take]; rfl)) ?_; (with_reducible refine (impl_isCell.calls a0_0 false _ A2.out).mono ?_); rintro e w' ⟨rfl, ⟨nd, rfl⟩⟩; refine ⟨_, rfl, ?_⟩))
    go_ret
    exact ⟨by first | rfl | (simp [errW_none, errW_some] <;> rfl) | (simp [*, errW_none, errW_some] <;> rfl), by repeat (first | (with_reducible first | exact HB.out | apply qH | apply qA | apply qG | refine qF ?_ GE102.out) | exact HB.out)⟩

/-! ### impl_DiskOk: function 22 (a contract of this session's) -/
def impl_DiskOk.C.p (x : ByteArray) : Bool := decide ((x.size : Int) > 1200)
def impl_DiskOk.C.any (l : List ByteArray) : Bool := l.any impl_DiskOk.C.p
theorem impl_DiskOk.C.p_ok (x : ByteArray) : impl_DiskOk_1.f x = some (impl_DiskOk.C.p x) := by
  rfl
set_option maxHeartbeats 4000000 in
set_option maxRecDepth 100000 in
theorem impl_DiskOk.C.Index (A0 : Option Addr) (c0 : Nat) (l0 : List ByteArray) (w : World) (hr0 : Kd.C Kd.string w A0 l0.length l0) (hc0 : l0.length ≤ c0) :
    Calls Try.prog 72 #[.slice A0 l0.length c0, .func (.func 48) #[] #[]] w fun e w' => e = .returned (.int .i64 (firstAt impl_DiskOk.C.p l0 0)) ∧ Below w.heap.size w w' := by
  have HR := Aside0.mk hr0
  have HM : Aside0 (l0.length ≤ 9223372036854775807) := ⟨hr0.2.1⟩
  clear hr0 hc0
  go_enter Try.func72, Try.ntmps72
  go_wp2
  go_loopg [5, 8] l0.length (fun kq v5 v8 w' => ∃ (i : Nat), v8 = .int .i64 (i : Int) ∧ Aside0 (i + kq = l0.length) ∧ Aside0 (firstAt impl_DiskOk.C.p l0 0 = firstAt impl_DiskOk.C.p (l0.drop i) i) ∧ Aside0 (Below w.heap.size w w'))
  case atStart => exact ⟨0, rfl, ⟨by omega⟩, ⟨by simp⟩, ⟨Below.refl _ _⟩⟩
  case round =>
    obtain ⟨i, rfl, HI, HF, HB⟩ := hrel
    cases gk with
    | zero =>
      have hi := HI.out
      have c1 : decide ((i : Int) < (l0.length : Int)) = false := by simp; omega
      go_wp2
      go_ret
      have := HF.out
      rw [List.drop_of_length_le (by omega)] at this
      exact ⟨by rw [this]; rfl, HB.out⟩
    | succ k1 =>
      have hi := HI.out
      have hlt : i < l0.length := by omega
      obtain ⟨ad, e1, hx0⟩ := Kd.zN (Kd.qY HR.out HB.out) (i : Int) (by omega) (by omega)
      cases e1
      rw [Int.toNat_natCast] at hx0
      have HS := Aside0.mk (firstAt_drop impl_DiskOk.C.p ByteArray.empty l0 i hlt)
      have c1 : decide ((i : Int) < (l0.length : Int)) = true := by simp; omega
      have c2 : (0 ≤ (i : Int)) = True := by simp
      have c3 : ((i : Int) < (l0.length : Int)) = True := by simp; omega
      have hm := HM.out
      have hlt' : i < l0.length := hlt
      clear hi hlt
      go_wp2_with (go_at_call 48; refine (impl_DiskOk_1.calls _ _ _ (impl_DiskOk.C.p_ok _)).mono ?_; rintro e w1 ⟨rfl, hd⟩)
      · go_ret
        have h1 := HF.out
        rw [HS.out, if_pos (by assumption)] at h1
        exact ⟨by rw [h1]; rfl, zQ HB.out HB.out.size hd.below⟩
      · go_roundg k1
        case measure => omega
        case rel => exact ⟨i + 1, by go_num, ⟨by have := HI.out; omega⟩, ⟨by rw [HF.out, HS.out, if_neg (ne_true_of_eq_false (by assumption))]⟩, ⟨zQ HB.out HB.out.size hd.below⟩⟩
set_option maxHeartbeats 4000000 in
set_option maxRecDepth 100000 in
theorem impl_DiskOk.C.Contains (A0 : Option Addr) (c0 : Nat) (l0 : List ByteArray) (w : World) (hr0 : Kd.C Kd.string w A0 l0.length l0) (hc0 : l0.length ≤ c0) :
    Calls Try.prog 47 #[.slice A0 l0.length c0, .func (.func 48) #[] #[]] w fun e w' => e = .returned (.bool (impl_DiskOk.C.any l0)) ∧ Below w.heap.size w w' := by
  have HR := Aside0.mk hr0
  have HC := Aside0.mk hc0
  have HA := Aside0.mk (firstAt_any impl_DiskOk.C.p l0 0)
  clear hr0 hc0
  go_enter Try.func47, Try.ntmps47
  go_wp2_with (go_at_call 72; refine (impl_DiskOk.C.Index _ _ _ _ HR.out HC.out).mono ?_; rintro e w1 ⟨rfl, hb⟩)
  go_ret
  exact ⟨by unfold impl_DiskOk.C.any; rw [← HA.out]; rfl, hb⟩
def impl_DiskOk.W.p (x : S70) : Bool := !(decide (0 ≤ x.f0) && decide (x.f0 ≤ 41)) || decide ((x.f1.size : Int) > 1200)
def impl_DiskOk.W.any (l : List S70) : Bool := l.any impl_DiskOk.W.p
theorem impl_DiskOk.W.p_ok (x : S70) : impl_DiskOk_2.f x.f0 x.f1 = some (impl_DiskOk.W.p x) := by
  by_cases h1 : 0 ≤ x.f0 <;> by_cases h2 : x.f0 ≤ 41 <;> simp [impl_DiskOk_2.f, impl_isCell.f, impl_in.f, impl_DiskOk.W.p, h1, h2]
set_option maxHeartbeats 4000000 in
set_option maxRecDepth 100000 in
theorem impl_DiskOk.W.Index (A0 : Option Addr) (c0 : Nat) (l0 : List S70) (w : World) (hr0 : Kd.C k70 w A0 l0.length l0) (hc0 : l0.length ≤ c0) :
    Calls Try.prog 73 #[.slice A0 l0.length c0, .func (.func 50) #[] #[]] w fun e w' => e = .returned (.int .i64 (firstAt impl_DiskOk.W.p l0 0)) ∧ Below w.heap.size w w' := by
  have HR := Aside0.mk hr0
  have HM : Aside0 (l0.length ≤ 9223372036854775807) := ⟨hr0.2.1⟩
  clear hr0 hc0
  go_enter Try.func73, Try.ntmps73
  go_wp2
  go_loopg [5, 8] l0.length (fun kq v5 v8 w' => ∃ (i : Nat), v8 = .int .i64 (i : Int) ∧ Aside0 (i + kq = l0.length) ∧ Aside0 (firstAt impl_DiskOk.W.p l0 0 = firstAt impl_DiskOk.W.p (l0.drop i) i) ∧ Aside0 (Below w.heap.size w w'))
  case atStart => exact ⟨0, rfl, ⟨by omega⟩, ⟨by simp⟩, ⟨Below.refl _ _⟩⟩
  case round =>
    obtain ⟨i, rfl, HI, HF, HB⟩ := hrel
    cases gk with
    | zero =>
      have hi := HI.out
      have c1 : decide ((i : Int) < (l0.length : Int)) = false := by simp; omega
      go_wp2
      go_ret
      have := HF.out
      rw [List.drop_of_length_le (by omega)] at this
      exact ⟨by rw [this]; rfl, HB.out⟩
    | succ k1 =>
      have hi := HI.out
      have hlt : i < l0.length := by omega
      obtain ⟨ad, e1, hx0, hx1⟩ := at_T70 (Kd.qY HR.out HB.out) (i : Int) (by omega) (by omega)
      cases e1
      rw [Int.toNat_natCast] at hx0 hx1
      have HS := Aside0.mk (firstAt_drop impl_DiskOk.W.p z70 l0 i hlt)
      have c1 : decide ((i : Int) < (l0.length : Int)) = true := by simp; omega
      have c2 : (0 ≤ (i : Int)) = True := by simp
      have c3 : ((i : Int) < (l0.length : Int)) = True := by simp; omega
      have hm := HM.out
      have hlt' : i < l0.length := hlt
      clear hi hlt
      go_wp2_with (go_at_call 50; refine (impl_DiskOk_2.calls _ _ _ _ (impl_DiskOk.W.p_ok _)).mono ?_; rintro e w1 ⟨rfl, hd⟩)
      · go_ret
        have h1 := HF.out
        rw [HS.out, if_pos (by assumption)] at h1
        exact ⟨by rw [h1]; rfl, zQ HB.out HB.out.size hd⟩
      · go_roundg k1
        case measure => omega
        case rel => exact ⟨i + 1, by go_num, ⟨by have := HI.out; omega⟩, ⟨by rw [HF.out, HS.out, if_neg (ne_true_of_eq_false (by assumption))]⟩, ⟨zQ HB.out HB.out.size hd⟩⟩
set_option maxHeartbeats 4000000 in
set_option maxRecDepth 100000 in
theorem impl_DiskOk.W.Contains (A0 : Option Addr) (c0 : Nat) (l0 : List S70) (w : World) (hr0 : Kd.C k70 w A0 l0.length l0) (hc0 : l0.length ≤ c0) :
    Calls Try.prog 49 #[.slice A0 l0.length c0, .func (.func 50) #[] #[]] w fun e w' => e = .returned (.bool (impl_DiskOk.W.any l0)) ∧ Below w.heap.size w w' := by
  have HR := Aside0.mk hr0
  have HC := Aside0.mk hc0
  have HA := Aside0.mk (firstAt_any impl_DiskOk.W.p l0 0)
  clear hr0 hc0
  go_enter Try.func49, Try.ntmps49
  go_wp2_with (go_at_call 73; refine (impl_DiskOk.W.Index _ _ _ _ HR.out HC.out).mono ?_; rintro e w1 ⟨rfl, hb⟩)
  go_ret
  exact ⟨by unfold impl_DiskOk.W.any; rw [← HA.out]; rfl, hb⟩
def impl_DiskOk.ok (l0_0 : List ByteArray) (l0_1 : List S70) (a0_2 a0_3 : Int) : Bool := decide ((l0_0.length : Int) = 42) && (!(impl_DiskOk.C.any l0_0) && (decide ((l0_1.length : Int) ≤ 100) && (!(impl_DiskOk.W.any l0_1) && (decide (a0_2 ≥ -1) && decide (a0_3 ≥ -1)))))
def impl_DiskOk.f (l0_0 : List ByteArray) (l0_1 : List S70) (a0_2 a0_3 : Int) : Option Bool := some (impl_DiskOk.ok l0_0 l0_1 a0_2 a0_3)
set_option maxHeartbeats 4000000 in
set_option maxRecDepth 100000 in
theorem impl_DiskOk.calls (A0_0 : Option Addr) (c0_0 : Nat) (l0_0 : List ByteArray) (A0_1 : Option Addr) (c0_1 : Nat) (l0_1 : List S70) (a0_2 : Int) (a0_3 : Int) (r : Bool) (w : World) (hr0_0 : Kd.C Kd.string w A0_0 l0_0.length l0_0) (hc0_0 : l0_0.length ≤ c0_0) (hr0_1 : Kd.C k70 w A0_1 l0_1.length l0_1) (hc0_1 : l0_1.length ≤ c0_1) (h : impl_DiskOk.f l0_0 l0_1 a0_2 a0_3 = some r) :
    Calls Try.prog 22 #[.agg #[.slice A0_0 l0_0.length c0_0, .slice A0_1 l0_1.length c0_1, .int .i64 a0_2, .int .i64 a0_3]] w fun e w' => e = .returned (.bool r) ∧ Below w.heap.size w w' := by
  have hu26 := Try.underlying26
  obtain rfl := Option.some.inj h
  clear h
  have HR0 := Aside0.mk hr0_0
  have HC0 := Aside0.mk hc0_0
  have HR1 := Aside0.mk hr0_1
  have HC1 := Aside0.mk hc0_1
  have HB := Aside0.mk (Below.refl w.heap.size w)
  clear hr0_0 hc0_0 hr0_1 hc0_1
  go_enter Try.func22, Try.ntmps22
  go_wp2_with (first | ((with_reducible refine qX (N := 1) rfl ?_); (try (refine zM (by rfl) ?_; dsimp only)); refine qW ?hg (N := 1) ?hd (cs := #[.slice A0_0 l0_0.length c0_0, .slice A0_1 l0_1.length c0_1, .int .i64 a0_2, .int .i64 a0_3]) (t := 26) ?hr ?_; (case hd => rfl); (case hg => rfl); (case hr => first | (go_simp; done) | (go_simp; rfl)); intro gb hg w1 hbox hb; have BKgb := Aside0.mk hbox; have HB1 := Aside0.mk (qO HB.out hb); have GEgb := Aside0.mk (by rw [hg]; exact HB.out.size : w.heap.size ≤ gb); clear HB; have HB := HB1; clear HB1; clear hb hbox hg; have hzgb_0 : w1.cell? ⟨gb, 0, none⟩ = some (.slice A0_0 l0_0.length c0_0) := (qC BKgb.out 0).trans rfl; have hfgb_0 : w1.frozen? ⟨gb, 0, none⟩ = false := qB BKgb.out 0; have hzgb_1 : w1.cell? ⟨gb, 1, none⟩ = some (.slice A0_1 l0_1.length c0_1) := (qC BKgb.out 1).trans rfl; have hfgb_1 : w1.frozen? ⟨gb, 1, none⟩ = false := qB BKgb.out 1; have hzgb_2 : w1.cell? ⟨gb, 2, none⟩ = some (.int .i64 a0_2) := (qC BKgb.out 2).trans rfl; have hfgb_2 : w1.frozen? ⟨gb, 2, none⟩ = false := qB BKgb.out 2; have hzgb_3 : w1.cell? ⟨gb, 3, none⟩ = some (.int .i64 a0_3) := (qC BKgb.out 3).trans rfl; have hfgb_3 : w1.frozen? ⟨gb, 3, none⟩ = false := qB BKgb.out 3) | (go_at_call 47; refine (impl_DiskOk.C.Contains _ _ _ _ (Kd.qY HR0.out HB.out) HC0.out).mono ?_; rintro e w2 ⟨rfl, hb⟩; have BK1 := Aside0.mk (qL BKgb.out hb); have HB1 := Aside0.mk (qO HB.out hb); clear HB BKgb; have HB := HB1; have BKgb := BK1; clear HB1 BK1 hb; clear hzgb_0 hfgb_0 hzgb_1 hfgb_1 hzgb_2 hfgb_2 hzgb_3 hfgb_3; have hzgb_0 : w2.cell? ⟨gb, 0, none⟩ = some (.slice A0_0 l0_0.length c0_0) := (qC BKgb.out 0).trans rfl; have hfgb_0 : w2.frozen? ⟨gb, 0, none⟩ = false := qB BKgb.out 0; have hzgb_1 : w2.cell? ⟨gb, 1, none⟩ = some (.slice A0_1 l0_1.length c0_1) := (qC BKgb.out 1).trans rfl; have hfgb_1 : w2.frozen? ⟨gb, 1, none⟩ = false := qB BKgb.out 1; have hzgb_2 : w2.cell? ⟨gb, 2, none⟩ = some (.int .i64 a0_2) := (qC BKgb.out 2).trans rfl; have hfgb_2 : w2.frozen? ⟨gb, 2, none⟩ = false := qB BKgb.out 2; have hzgb_3 : w2.cell? ⟨gb, 3, none⟩ = some (.int .i64 a0_3) := (qC BKgb.out 3).trans rfl; have hfgb_3 : w2.frozen? ⟨gb, 3, none⟩ = false := qB BKgb.out 3) | (go_at_call 49; refine (impl_DiskOk.W.Contains _ _ _ _ (Kd.qY HR1.out HB.out) HC1.out).mono ?_; rintro e w3 ⟨rfl, hb⟩; have BK1 := Aside0.mk (qL BKgb.out hb); have HB1 := Aside0.mk (qO HB.out hb); clear HB BKgb; have HB := HB1; have BKgb := BK1; clear HB1 BK1 hb; clear hzgb_0 hfgb_0 hzgb_1 hfgb_1 hzgb_2 hfgb_2 hzgb_3 hfgb_3; have hzgb_0 : w3.cell? ⟨gb, 0, none⟩ = some (.slice A0_0 l0_0.length c0_0) := (qC BKgb.out 0).trans rfl; have hfgb_0 : w3.frozen? ⟨gb, 0, none⟩ = false := qB BKgb.out 0; have hzgb_1 : w3.cell? ⟨gb, 1, none⟩ = some (.slice A0_1 l0_1.length c0_1) := (qC BKgb.out 1).trans rfl; have hfgb_1 : w3.frozen? ⟨gb, 1, none⟩ = false := qB BKgb.out 1; have hzgb_2 : w3.cell? ⟨gb, 2, none⟩ = some (.int .i64 a0_2) := (qC BKgb.out 2).trans rfl; have hfgb_2 : w3.frozen? ⟨gb, 2, none⟩ = false := qB BKgb.out 2; have hzgb_3 : w3.cell? ⟨gb, 3, none⟩ = some (.int .i64 a0_3) := (qC BKgb.out 3).trans rfl; have hfgb_3 : w3.frozen? ⟨gb, 3, none⟩ = false := qB BKgb.out 3))
  all_goals
    go_ret
    refine ⟨?_, HB.out⟩
    show _ = Ending.returned (.bool (impl_DiskOk.ok l0_0 l0_1 a0_2 a0_3))
    unfold impl_DiskOk.ok
    first | (simp_all; done) | (simp_all; omega)


/-! ### impl_clone_string: function 63 (a contract of this session's) -/
def impl_clone_string.f (l0 : List (ByteArray)) : Option (List (ByteArray)) := if l0.length < 8796093022208 then some l0 else none
set_option maxHeartbeats 4000000 in
set_option maxRecDepth 100000 in
theorem impl_clone_string.Clone (A0 : Option Addr) (c0 : Nat) (l0 : List (ByteArray)) (w : World) (hr0 : Kd.C Kd.string w A0 l0.length l0) (hc0 : l0.length ≤ c0) (h : l0.length < 8796093022208) :
    Calls Try.prog 79 #[.slice A0 l0.length c0] w fun e w' => ∃ v0_ : Value, e = .returned (v0_) ∧ Kd.R Kd.string 9 w' w.heap.size (fun _ => True) v0_ l0 ∧ Below w.heap.size w w' := by
  have hu23 := Try.underlying23
  have HL := Aside0.mk h
  cases A0 with
  | none =>
    obtain rfl : l0 = [] := by
      rcases Nat.eq_zero_or_pos l0.length with h0 | h0
      · exact List.eq_nil_of_length_eq_zero h0
      · obtain ⟨ad, e, _⟩ := hr0.2.2 h0; cases e
    clear hr0 h
    have hq : ∀ (W : World) , (binOp .eql 23 (.slice none 0 c0) (.slice none 0 0)).run Try.prog W = .ok (.bool true) W := fun W => Lib.run_eql_slice_nil W 23 9 none 0 c0 0 0 Try.underlying23
    go_enter Try.func79, Try.ntmps79
    go_wp2
    go_ret
    exact ⟨_, rfl, Kd.R_nil _ _ _ _ _, Below.refl _ _⟩
  | some ad =>
    have HR := Aside0.mk hr0
    clear hr0 h
    have hq : ∀ (W : World) , (binOp .eql 23 (.slice (some ad) l0.length c0) (.slice none 0 0)).run Try.prog W = .ok (.bool false) W := fun W => Lib.run_eql_slice_nil W 23 9 (some ad) l0.length c0 0 0 Try.underlying23
    go_enter Try.func79, Try.ntmps79
    go_wp2_with (first | ((with_reducible refine qX (N := 5) rfl ?_); refine Kd.R_lit Kd.string _ 9 ?hg (N := 5) ?hd (xs := ([] : List (ByteArray))) (inner := []) (ok := fun _ => True) (okp := fun _ => True) ?hr ?hp (fun _ hk => hk) trivial (Below.refl _ _) (Nat.le_refl _) (by simp) ?_; (case hd => rfl); (case hg => rfl); (case hr => first | (go_simp; done) | (go_simp; rfl)); (case hp => exact (Reps.none _ _)); intro v1 w1 ho1 hb1 hg_ hnew_; clear hg_ hnew_; have HO := Aside0.mk (Kd.zG ho1 (qM (Below.refl _ _) : w.heap.size ≤ _)); have HB := Aside0.mk hb1; clear ho1 hb1) | ((with_reducible refine zV (b := .append) (xs := #[.tmp 5, .tmp 6]) rfl ?_); at_builtin; refine Kd.xG Kd.string (w0 := w) w.heap.size rfl (.tmp 5) (.tmp 6) 23 9 (.string ⟨#[]⟩) 16 rfl Try.underlying23 info9 rfl (by decide) (by omega) v1 [] l0 _ _ _ (fun _ => True) (fun _ => False) rfl rfl ?aO ?aR (fun _ _ h => h) (fun _ h => h.elim) ?aF ?aB ?aS ?aL ?_; (case aR => repeat (first | exact (Kd.qY HR.out HB.out) | (with_reducible refine Kd.qZ ?_ _) | (with_reducible refine Kd.zA ?_ _) | (with_reducible refine Kd.zC ?_))); (case aB => exact HB.out); (case aF => exact (fun _ _ => trivial)); (case aO => exact HO.out); (case aS => exact (qM HB.out)); (case aL => have := HL.out; simp; omega); intro v2 w2 ho hb hg hat; clear hg hat; have HO2 := Aside0.mk ho; have HB2 := Aside0.mk hb; clear ho hb))
    go_ret
    exact ⟨_, rfl, HO2.out, HB2.out⟩
set_option maxHeartbeats 4000000 in
set_option maxRecDepth 100000 in
theorem impl_clone_string.calls (A0 : Option Addr) (c0 : Nat) (l0 : List (ByteArray)) (r : List (ByteArray)) (w : World) (hr0 : Kd.C Kd.string w A0 l0.length l0) (hc0 : l0.length ≤ c0) (h : impl_clone_string.f l0 = some r) :
    Calls Try.prog 63 #[.slice A0 l0.length c0] w fun e w' => ∃ v0_ : Value, e = .returned (v0_) ∧ Kd.R Kd.string 9 w' w.heap.size (fun _ => True) v0_ r ∧ Below w.heap.size w w' := by
  have hu23 := Try.underlying23
  unfold impl_clone_string.f at h
  by_cases hlim : l0.length < 8796093022208
  case neg => rw [if_neg hlim] at h; cases h
  rw [if_pos hlim] at h
  obtain rfl := Option.some.inj h
  have HR := Aside0.mk hr0
  have HC := Aside0.mk hc0
  have HL := Aside0.mk hlim
  clear hr0 h hc0 hlim
  go_enter Try.func63, Try.ntmps63
  go_wp2_with (first | (go_at_call 78; go_in) | (go_at_call 79; refine (impl_clone_string.Clone _ _ _ _ HR.out HC.out HL.out).mono ?_; rintro e w1 ⟨v1, rfl, ho1, hb1⟩; obtain ⟨A1, c1, rfl, hle, hm1⟩ := Kd.zS ho1; have hm : l0.length ≤ 9223372036854775807 := hm1.2.1; clear hm1; have HO := Aside0.mk ho1; have HB := Aside0.mk hb1; clear ho1 hb1))
  go_ret
  exact ⟨_, rfl, R_clip HO.out, HB.out⟩


/-! ### impl_Wait: function 66 (a contract of this session's) -/
def impl_Wait.f (l0 : List (S70)) : Option (List (S70)) := if l0.length < 5864062014805 then some l0 else none
set_option maxHeartbeats 4000000 in
set_option maxRecDepth 100000 in
theorem impl_Wait.Clone (A0 : Option Addr) (c0 : Nat) (l0 : List (S70)) (w : World) (hr0 : Kd.C k70 w A0 l0.length l0) (hc0 : l0.length ≤ c0) (h : l0.length < 5864062014805) :
    Calls Try.prog 82 #[.slice A0 l0.length c0] w fun e w' => ∃ v0_ : Value, e = .returned (v0_) ∧ Kd.R k70 70 w' w.heap.size (fun _ => True) v0_ l0 ∧ Below w.heap.size w w' := by
  have hu24 := Try.underlying24
  have HL := Aside0.mk h
  cases A0 with
  | none =>
    obtain rfl : l0 = [] := by
      rcases Nat.eq_zero_or_pos l0.length with h0 | h0
      · exact List.eq_nil_of_length_eq_zero h0
      · obtain ⟨ad, e, _⟩ := hr0.2.2 h0; cases e
    clear hr0 h
    have hq : ∀ (W : World) , (binOp .eql 24 (.slice none 0 c0) (.slice none 0 0)).run Try.prog W = .ok (.bool true) W := fun W => Lib.run_eql_slice_nil W 24 70 none 0 c0 0 0 Try.underlying24
    go_enter Try.func82, Try.ntmps82
    go_wp2
    go_ret
    exact ⟨_, rfl, Kd.R_nil _ _ _ _ _, Below.refl _ _⟩
  | some ad =>
    have HR := Aside0.mk hr0
    clear hr0 h
    have hq : ∀ (W : World) , (binOp .eql 24 (.slice (some ad) l0.length c0) (.slice none 0 0)).run Try.prog W = .ok (.bool false) W := fun W => Lib.run_eql_slice_nil W 24 70 (some ad) l0.length c0 0 0 Try.underlying24
    go_enter Try.func82, Try.ntmps82
    go_wp2_with (first | ((with_reducible refine qX (N := 5) rfl ?_); refine Kd.R_lit k70 _ 70 ?hg (N := 5) ?hd (xs := ([] : List (S70))) (inner := []) (ok := fun _ => True) (okp := fun _ => True) ?hr ?hp (fun _ hk => hk) trivial (Below.refl _ _) (Nat.le_refl _) (by simp) ?_; (case hd => rfl); (case hg => rfl); (case hr => first | (go_simp; done) | (go_simp; rfl)); (case hp => exact (Reps.none _ _)); intro v1 w1 ho1 hb1 hg_ hnew_; clear hg_ hnew_; have HO := Aside0.mk (Kd.zG ho1 (qM (Below.refl _ _) : w.heap.size ≤ _)); have HB := Aside0.mk hb1; clear ho1 hb1) | ((with_reducible refine zV (b := .append) (xs := #[.tmp 5, .tmp 6]) rfl ?_); at_builtin; refine Kd.xG k70 (w0 := w) w.heap.size rfl (.tmp 5) (.tmp 6) 24 70 (.agg #[(.int .i64 0), (.string ⟨#[]⟩)]) 24 rfl Try.underlying24 info70 rfl (by decide) (by omega) v1 [] l0 _ _ _ (fun _ => True) (fun _ => False) rfl rfl ?aO ?aR (fun _ _ h => h) (fun _ h => h.elim) ?aF ?aB ?aS ?aL ?_; (case aR => repeat (first | exact (Kd.qY HR.out HB.out) | (with_reducible refine Kd.qZ ?_ _) | (with_reducible refine Kd.zA ?_ _) | (with_reducible refine Kd.zC ?_))); (case aB => exact HB.out); (case aF => exact (fun _ _ => trivial)); (case aO => exact HO.out); (case aS => exact (qM HB.out)); (case aL => have := HL.out; simp; omega); intro v2 w2 ho hb hg hat; clear hg hat; have HO2 := Aside0.mk ho; have HB2 := Aside0.mk hb; clear ho hb))
    go_ret
    exact ⟨_, rfl, HO2.out, HB2.out⟩
set_option maxHeartbeats 4000000 in
set_option maxRecDepth 100000 in
theorem impl_Wait.calls (A0 : Option Addr) (c0 : Nat) (l0 : List (S70)) (r : List (S70)) (w : World) (hr0 : Kd.C k70 w A0 l0.length l0) (hc0 : l0.length ≤ c0) (h : impl_Wait.f l0 = some r) :
    Calls Try.prog 66 #[.slice A0 l0.length c0] w fun e w' => ∃ v0_ : Value, e = .returned (v0_) ∧ Kd.R k70 70 w' w.heap.size (fun _ => True) v0_ r ∧ Below w.heap.size w w' := by
  have hu24 := Try.underlying24
  unfold impl_Wait.f at h
  by_cases hlim : l0.length < 5864062014805
  case neg => rw [if_neg hlim] at h; cases h
  rw [if_pos hlim] at h
  obtain rfl := Option.some.inj h
  have HR := Aside0.mk hr0
  have HC := Aside0.mk hc0
  have HL := Aside0.mk hlim
  clear hr0 h hc0 hlim
  go_enter Try.func66, Try.ntmps66
  go_wp2_with (first | (go_at_call 81; go_in) | (go_at_call 82; refine (impl_Wait.Clone _ _ _ _ HR.out HC.out HL.out).mono ?_; rintro e w1 ⟨v1, rfl, ho1, hb1⟩; obtain ⟨A1, c1, rfl, hle, hm1⟩ := Kd.zS ho1; have hm : l0.length ≤ 9223372036854775807 := hm1.2.1; clear hm1; have HO := Aside0.mk ho1; have HB := Aside0.mk hb1; clear ho1 hb1))
  go_ret
  exact ⟨_, rfl, R_clip HO.out, HB.out⟩


/-! ### impl_Disk_copyOf: function 35 -/
def impl_Disk_copyOf.f (l0_0 : List ByteArray) (l0_1 : List (S70)) (a0_2 : Int) (a0_3 : Int) : Option (List ByteArray × (List (S70)) × Int × Int) := (impl_clone_string.f l0_0).bind fun t106 => ((impl_Wait.f l0_1).bind fun t109 => (some (t106, t109, a0_2, a0_3)))
def impl_Disk_copyOf.T1 : Bool × List (List Nat × List Nat) := (true, [([], []), ([0], [0]), ([1], [1]), ([], []), ([3], [3]), ([4, 2], [4]), ([], []), ([6], [6]), ([], []), ([8], [8]), ([2, 5, 7, 9], [2, 5, 7, 9]), ([10, 5, 0, 1, 2, 3, 4, 5, 6, 7, 8, 9, 10], [10])])
def impl_Disk_copyOf.B1 : List Nat := [0, 1, 3, 0, 8, 31, 0, 64, 0, 256, 1023, 2047]
theorem impl_Disk_copyOf.tab1 : rtab .any (opsOf Try.f35 1) = impl_Disk_copyOf.T1 := by kernel_rfl
theorem impl_Disk_copyOf.bits1 : waitsOk impl_Disk_copyOf.T1.2 impl_Disk_copyOf.B1 = true := by kernel_rfl
set_option maxHeartbeats 8000000 in
set_option maxRecDepth 100000 in
theorem impl_Disk_copyOf.calls (A0_0 : Option Addr) (c0_0 : Nat) (l0_0 : List ByteArray) (A0_1 : Option Addr) (c0_1 : Nat) (l0_1 : List (S70)) (a0_2 : Int) (a0_3 : Int) (r1 : List ByteArray) (r2 : List (S70)) (r3 : Int) (r4 : Int) (w : World) (hr0_0 : Kd.C Kd.string w A0_0 l0_0.length l0_0) (hc0_0 : l0_0.length ≤ c0_0) (hr0_1 : Kd.C k70 w A0_1 l0_1.length l0_1) (hc0_1 : l0_1.length ≤ c0_1) (h : impl_Disk_copyOf.f l0_0 l0_1 a0_2 a0_3 = some (r1, r2, r3, r4)) :
    Calls Try.prog 35 #[.agg #[.slice A0_0 l0_0.length c0_0, .slice A0_1 l0_1.length c0_1, .int .i64 a0_2, .int .i64 a0_3]] w fun e w' => ∃ v0_ v1_ : Value, e = .returned (.agg #[v0_, v1_, .int .i64 r3, .int .i64 r4]) ∧ Kd.R Kd.string 9 w' w.heap.size (fun _ => True) v0_ r1 ∧ Kd.R k70 70 w' w.heap.size (fun _ => True) v1_ r2 ∧ Below w.heap.size w w' := by
  have hu26 := Try.underlying26
  have HR0_0 := Aside0.mk hr0_0
  have HC0_0 := Aside0.mk hc0_0
  clear hr0_0 hc0_0
  have HR0_1 := Aside0.mk hr0_1
  have HC0_1 := Aside0.mk hc0_1
  clear hr0_1 hc0_1
  have HB := Aside0.mk (Below.refl w.heap.size w)
  have H : ((impl_clone_string.f l0_0).bind fun t106 => ((impl_Wait.f l0_1).bind fun t109 => (some (t106, t109, a0_2, a0_3)))) = some (r1, r2, r3, r4) := h
  clear h
  replace H := Option.bind_eq_some_iff.mp H
  obtain ⟨t106, A20, H⟩ := H
  replace H : ((impl_Wait.f l0_1).bind fun t109 => (some (t106, t109, a0_2, a0_3))) = some (r1, r2, r3, r4) := H
  have A2 := Aside0.mk A20
  clear A20
  replace H := Option.bind_eq_some_iff.mp H
  obtain ⟨t109, A30, H⟩ := H
  replace H : (some (t106, t109, a0_2, a0_3)) = some (r1, r2, r3, r4) := H
  have A3 := Aside0.mk A30
  clear A30
  simp only [Option.some.injEq, Prod.mk.injEq] at H
  obtain ⟨rfl, rfl, rfl, rfl⟩ := H
  go_enter Try.func35, Try.ntmps35
  try go_wp2_with (first | ((with_reducible refine qX (N := 1) rfl ?_); refine qW ?hg (N := 1) ?hd (cs := #[.slice A0_0 l0_0.length c0_0, .slice A0_1 l0_1.length c0_1, .int .i64 a0_2, .int .i64 a0_3]) (t := 26) ?hr ?_; (case hd => rfl); (case hg => rfl); (case hr => first | (go_simp; done) | (go_simp; rfl)); intro gb104 hg w4 hbox hb; have n0_ := Aside0.mk (qO (by repeat (first | (with_reducible first | exact HB.out | apply qH | apply qA | apply qG) | exact HB.out)) hb); have n1_ := Aside0.mk (hbox); have n2_ := Aside0.mk ((by rw [hg]; exact (qM (by repeat (first | (with_reducible first | exact HB.out | apply qH | apply qA | apply qG) | exact HB.out))) : w.heap.size ≤ gb104)); have n3_ := Aside0.mk ((by rw [hg]; exact (qM (by repeat (first | (with_reducible first | exact HB.out | apply qH | apply qA | apply qG) | exact HB.out))) : w.heap.size ≤ gb104)); clear HB; have HB := n0_; have BK104 := n1_; have GW104 := n2_; have GE104 := n3_; clear n0_ n1_ n2_ n3_; clear hb hbox hg) | ((with_reducible refine qX (N := 2) rfl ?_); refine qW ?hg (N := 2) ?hd (cs := #[.slice none 0 0, .slice none 0 0, .int .i64 0, .int .i64 0]) (t := 26) ?hr ?_; (case hd => rfl); (case hg => rfl); (case hr => first | (go_simp; done) | (go_simp; rfl)); intro gb105 hg w5 hbox hb; have n0_ := Aside0.mk (qL (g := gb104) (o := .cells #[.slice A0_0 l0_0.length c0_0, .slice A0_1 l0_1.length c0_1, .int .i64 a0_2, .int .i64 a0_3] 26 (0, 0)) (by (with_reducible repeat (first | refine qE ?_ _ | refine qI ?_ | refine qD ?_ _)); exact BK104.out) hb); have n1_ := Aside0.mk (qO (by repeat (first | (with_reducible first | exact HB.out | apply qH | apply qA | apply qG | refine qF ?_ GE104.out) | exact HB.out)) hb); have n2_ := Aside0.mk (hbox); have n3_ := Aside0.mk ((by rw [hg]; exact (qM (by repeat (first | (with_reducible first | exact HB.out | apply qH | apply qA | apply qG | refine qF ?_ GE104.out) | exact HB.out))) : w.heap.size ≤ gb105)); have n4_ := Aside0.mk ((by rw [hg]; exact (qM (by repeat (first | (with_reducible first | exact HB.out | apply qH | apply qA | apply qG | refine qF ?_ GE104.out) | exact HB.out))) : w.heap.size ≤ gb105)); have n5_ := Aside0.mk ((by rw [hg]; exact Nat.ne_of_lt (zB (g := gb104) (o := .cells #[.slice A0_0 l0_0.length c0_0, .slice A0_1 l0_1.length c0_1, .int .i64 a0_2, .int .i64 a0_3] 26 (0, 0)) (by (with_reducible repeat (first | refine qE ?_ _ | refine qI ?_ | refine qD ?_ _)); exact BK104.out)) : gb104 ≠ gb105)); have n6_ := Aside0.mk ((by rw [hg]; exact Nat.ne_of_gt (zB (g := gb104) (o := .cells #[.slice A0_0 l0_0.length c0_0, .slice A0_1 l0_1.length c0_1, .int .i64 a0_2, .int .i64 a0_3] 26 (0, 0)) (by (with_reducible repeat (first | refine qE ?_ _ | refine qI ?_ | refine qD ?_ _)); exact BK104.out)) : gb105 ≠ gb104)); clear BK104; clear HB; have BK104 := n0_; have HB := n1_; have BK105 := n2_; have GW105 := n3_; have GE105 := n4_; have NB104_105 := n5_; have NB105_104 := n6_; clear n0_ n1_ n2_ n3_ n4_ n5_ n6_; clear hb hbox hg))
  have n0_ := Aside0.mk (qI BK104.out)
  have n1_ := Aside0.mk (qI BK105.out)
  have n2_ := Aside0.mk (qG HB.out)
  clear BK104
  clear BK105
  clear HB
  have BK104 := n0_
  have BK105 := n1_
  have HB := n2_
  clear n0_ n1_ n2_
  refine start_ (n := 12) (S := fun w' => w'.cell? ⟨gb104, 0, none⟩ = some (.slice A0_0 l0_0.length c0_0) ∧ w'.cell? ⟨gb104, 1, none⟩ = some (.slice A0_1 l0_1.length c0_1) ∧ w'.cell? ⟨gb104, 2, none⟩ = some (.int .i64 a0_2) ∧ w'.cell? ⟨gb104, 3, none⟩ = some (.int .i64 a0_3)) (ds := []) #[false, false, false, false, false, false, false, false, false, false, false, false] (by kernel_rfl) rfl rfl ⟨(qC BK104.out 0).trans rfl, (qC BK104.out 1).trans rfl, (qC BK104.out 2).trans rfl, (qC BK104.out 3).trans rfl⟩ (fun hHeld => ?_); refine with_tabW impl_Disk_copyOf.tab1 impl_Disk_copyOf.bits1 (fun HT_ HW_ => ?_)
  generalize w5.drew = w6 at BK104 BK105 HB hHeld ⊢
  refine pure_ (i := 0) (N := some 3) (v := ?_) (a' := ?_) #[true, false, false, false, false, false, false, false, false, false, false, false] rfl rfl (zK HT_.out (by kernel_rfl)) (fun _ _ _ h => h) (Or.inl ⟨by rfl, ?_⟩) ?_ ?_
  rotate_left
  · intro w'
    go_simp
    with_reducible rfl
  rotate_left
  · simp only [Act.put, List.setIfInBounds_toArray, List.set_cons_zero, List.set_cons_succ, i64_w, i32_w]
    rfl
  refine pure_ (i := 3) (N := some 6) (v := ?_) (a' := ?_) #[true, false, false, true, false, false, false, false, false, false, false, false] rfl rfl (zK HT_.out (by kernel_rfl)) (fun _ _ _ h => h) (Or.inl ⟨by rfl, ?_⟩) ?_ ?_
  rotate_left
  · intro w'
    go_simp
    with_reducible rfl
  rotate_left
  · simp only [Act.put, List.setIfInBounds_toArray, List.set_cons_zero, List.set_cons_succ, i64_w, i32_w]
    rfl
  refine pure_ (i := 6) (N := some 9) (v := ?_) (a' := ?_) #[true, false, false, true, false, false, true, false, false, false, false, false] rfl rfl (zK HT_.out (by kernel_rfl)) (fun _ _ _ h => h) (Or.inl ⟨by rfl, ?_⟩) ?_ ?_
  rotate_left
  · intro w'
    go_simp
    with_reducible rfl
  rotate_left
  · simp only [Act.put, List.setIfInBounds_toArray, List.set_cons_zero, List.set_cons_succ, i64_w, i32_w]
    rfl
  refine pure_ (i := 8) (N := some 11) (v := ?_) (a' := ?_) #[true, false, false, true, false, false, true, false, true, false, false, false] rfl rfl (zK HT_.out (by kernel_rfl)) (fun _ _ _ h => h) (Or.inl ⟨by rfl, ?_⟩) ?_ ?_
  rotate_left
  · intro w'
    go_simp
    with_reducible rfl
  rotate_left
  · simp only [Act.put, List.setIfInBounds_toArray, List.set_cons_zero, List.set_cons_succ, i64_w, i32_w]
    rfl
  refine take_ (i := 1) (N := some 4) (v := ?_) (a' := ?_) #[true, true, false, true, false, false, true, false, true, false, false, false] rfl rfl (zW HT_.out HW_.out (by kernel_rfl)) (fun _ _ _ h => h) (Or.inl ⟨by rfl, ?_⟩) hHeld ?_ ?_
  rotate_left
  · rintro w' ⟨s0, s1, s2, s3⟩
    go_simp
    with_reducible rfl
  rotate_left
  · simp only [Act.put, List.setIfInBounds_toArray, List.set_cons_zero, List.set_cons_succ, i64_w, i32_w]
    rfl
  refine take_ (i := 4) (N := some 7) (v := ?_) (a' := ?_) #[true, true, false, true, true, false, true, false, true, false, false, false] rfl rfl (zW HT_.out HW_.out (by kernel_rfl)) (fun _ _ _ h => h) (Or.inl ⟨by rfl, ?_⟩) hHeld ?_ ?_
  rotate_left
  · rintro w' ⟨s0, s1, s2, s3⟩
    go_simp
    with_reducible rfl
  rotate_left
  · simp only [Act.put, List.setIfInBounds_toArray, List.set_cons_zero, List.set_cons_succ, i64_w, i32_w]
    rfl
  refine take_ (i := 7) (N := some 10) (v := ?_) (a' := ?_) #[true, true, false, true, true, false, true, true, true, false, false, false] rfl rfl (zW HT_.out HW_.out (by kernel_rfl)) (fun _ _ _ h => h) (Or.inl ⟨by rfl, ?_⟩) hHeld ?_ ?_
  rotate_left
  · rintro w' ⟨s0, s1, s2, s3⟩
    go_simp
    with_reducible rfl
  rotate_left
  · simp only [Act.put, List.setIfInBounds_toArray, List.set_cons_zero, List.set_cons_succ, i64_w, i32_w]
    rfl
  refine take_ (i := 9) (N := some 12) (v := ?_) (a' := ?_) #[true, true, false, true, true, false, true, true, true, true, false, false] rfl rfl (zW HT_.out HW_.out (by kernel_rfl)) (fun _ _ _ h => h) (Or.inl ⟨by rfl, ?_⟩) hHeld ?_ ?_
  rotate_left
  · rintro w' ⟨s0, s1, s2, s3⟩
    go_simp
    with_reducible rfl
  rotate_left
  · simp only [Act.put, List.setIfInBounds_toArray, List.set_cons_zero, List.set_cons_succ, i64_w, i32_w]
    rfl
  refine one_ (i := 2) (N := some 5) #[true, true, true, true, true, false, true, true, true, true, false, false] rfl rfl (one_of HT_.out (by kernel_rfl)) (by decide) (fun K hK => ?_)
  refine goes_ Try.func63 (by kernel_rfl) rfl #[.slice A0_0 l0_0.length c0_0] (by rfl) rfl rfl (by (try simp only [List.map_toArray, List.map_cons, List.map_nil]); first | done | rfl | (simp only [List.length_drop, List.length_take]; rfl)) ?_
  with_reducible refine (impl_clone_string.calls _ _ l0_0 t106 _ ?side1 ?side2 A2.out).mono ?_
  (case side1 => repeat (first | exact (Kd.qY HR0_0.out HB.out) | (with_reducible refine Kd.qZ ?_ _) | (with_reducible refine Kd.zA ?_ _) | (with_reducible refine Kd.zC ?_)))
  (case side2 => exact HC0_0.out)
  rintro e w7 ⟨v107, rfl, ho0, hb⟩
  refine ⟨_, rfl, ?_⟩
  have n0_ := Aside0.mk (Kd.zG ho0 (qM (by repeat (first | (with_reducible first | exact HB.out | apply qH | apply qA | apply qG | refine qF ?_ GE104.out | refine qF ?_ GE105.out) | exact HB.out))))
  have n1_ := Aside0.mk (qL (g := gb104) (o := .cells #[.slice A0_0 l0_0.length c0_0, .slice A0_1 l0_1.length c0_1, .int .i64 a0_2, .int .i64 a0_3] 26 (0, 0)) (by (with_reducible repeat (first | refine qE ?_ _ | refine qI ?_ | refine qD ?_ _)); exact BK104.out) hb)
  have n2_ := Aside0.mk (qL (g := gb105) (o := .cells #[.slice none 0 0, .slice none 0 0, .int .i64 0, .int .i64 0] 26 (0, 0)) (by (with_reducible repeat (first | refine qE ?_ _ | refine qI ?_ | refine qD ?_ _)); exact BK105.out) hb)
  have n3_ := Aside0.mk (qO (by repeat (first | (with_reducible first | exact HB.out | apply qH | apply qA | apply qG | refine qF ?_ GE104.out | refine qF ?_ GE105.out) | exact HB.out)) hb)
  clear BK104
  clear BK105
  clear HB
  have HO108 := n0_
  have BK104 := n1_
  have BK105 := n2_
  have HB := n3_
  clear n0_ n1_ n2_ n3_
  (try clear hb)
  (try clear hb2)
  (try clear hk)
  (try clear hi)
  (try clear ho0)
  refine hK.out _ _ ⟨(qC BK104.out 0).trans rfl, (qC BK104.out 1).trans rfl, (qC BK104.out 2).trans rfl, (qC BK104.out 3).trans rfl⟩ (fun hHeld => ?_)
  clear hK K
  refine norm_ (a' := ?_) ?_ ?_
  rotate_left
  · show Act.put _ (some 5) _ = _
    simp only [Act.put, List.setIfInBounds_toArray, List.set_cons_zero, List.set_cons_succ, i64_w, i32_w]
    rfl
  refine one_ (i := 5) (N := some 8) #[true, true, true, true, true, true, true, true, true, true, false, false] rfl rfl (one_of HT_.out (by kernel_rfl)) (by decide) (fun K hK => ?_)
  refine goes_ Try.func66 (by kernel_rfl) rfl #[.slice A0_1 l0_1.length c0_1] (by rfl) rfl rfl (by (try simp only [List.map_toArray, List.map_cons, List.map_nil]); first | done | rfl | (simp only [List.length_drop, List.length_take]; rfl)) ?_
  with_reducible refine (impl_Wait.calls _ _ l0_1 t109 _ ?side1 ?side2 A3.out).mono ?_
  (case side1 => repeat (first | exact (Kd.qY HR0_1.out HB.out) | (with_reducible refine Kd.qZ ?_ _) | (with_reducible refine Kd.zA ?_ _) | (with_reducible refine Kd.zC ?_)))
  (case side2 => exact HC0_1.out)
  rintro e w8 ⟨v110, rfl, ho0, hb⟩
  refine ⟨_, rfl, ?_⟩
  have n0_ := Aside0.mk (Kd.qR (by (with_reducible repeat (first | apply Kd.qK | apply Kd.qJ | apply Kd.qN)); exact HO108.out) hb)
  have n1_ := Aside0.mk (Kd.zG ho0 (qM (by repeat (first | (with_reducible first | exact HB.out | apply qH | apply qA | apply qG | refine qF ?_ GE104.out | refine qF ?_ GE105.out) | exact HB.out))))
  have n2_ := Aside0.mk (qL (g := gb104) (o := .cells #[.slice A0_0 l0_0.length c0_0, .slice A0_1 l0_1.length c0_1, .int .i64 a0_2, .int .i64 a0_3] 26 (0, 0)) (by (with_reducible repeat (first | refine qE ?_ _ | refine qI ?_ | refine qD ?_ _)); exact BK104.out) hb)
  have n3_ := Aside0.mk (qL (g := gb105) (o := .cells #[.slice none 0 0, .slice none 0 0, .int .i64 0, .int .i64 0] 26 (0, 0)) (by (with_reducible repeat (first | refine qE ?_ _ | refine qI ?_ | refine qD ?_ _)); exact BK105.out) hb)
  have n4_ := Aside0.mk (qO (by repeat (first | (with_reducible first | exact HB.out | apply qH | apply qA | apply qG | refine qF ?_ GE104.out | refine qF ?_ GE105.out) | exact HB.out)) hb)
  clear HO108
  clear BK104
  clear BK105
  clear HB
  have HO108 := n0_
  have HO111 := n1_
  have BK104 := n2_
  have BK105 := n3_
  have HB := n4_
  clear n0_ n1_ n2_ n3_ n4_
  (try clear hb)
  (try clear hb2)
  (try clear hk)
  (try clear hi)
  (try clear ho0)
  obtain ⟨Ao9, co9, eo9⟩ := Kd.zE HO111.out
  (first | subst eo9 | (injection eo9 with f1_ f2_ f3_; have f4_ := f1_.symm; have f5_ := f3_.symm; clear f1_ f2_ f3_; subst f4_; subst f5_))
  obtain ⟨Ao10, co10, eo10⟩ := Kd.zE HO108.out
  (first | subst eo10 | (injection eo10 with f1_ f2_ f3_; have f4_ := f1_.symm; have f5_ := f3_.symm; clear f1_ f2_ f3_; subst f4_; subst f5_))
  refine hK.out _ _ ⟨(qC BK104.out 0).trans rfl, (qC BK104.out 1).trans rfl, (qC BK104.out 2).trans rfl, (qC BK104.out 3).trans rfl⟩ (fun hHeld => ?_)
  clear hK K
  refine norm_ (a' := ?_) ?_ ?_
  rotate_left
  · show Act.put _ (some 8) _ = _
    simp only [Act.put, List.setIfInBounds_toArray, List.set_cons_zero, List.set_cons_succ, i64_w, i32_w]
    rfl
  refine pure_ (i := 10) (N := some 13) (v := ?_) (a' := ?_) #[true, true, true, true, true, true, true, true, true, true, true, false] rfl rfl (zK HT_.out (by kernel_rfl)) (fun _ _ _ h => h) (Or.inl ⟨by rfl, ?_⟩) ?_ ?_
  rotate_left
  · intro w'
    go_simp
    with_reducible rfl
  rotate_left
  · simp only [Act.put, List.setIfInBounds_toArray, List.set_cons_zero, List.set_cons_succ, i64_w, i32_w]
    rfl
  refine one_ (i := 11) (N := none) #[true, true, true, true, true, true, true, true, true, true, true, true] rfl rfl (one_of HT_.out (by kernel_rfl)) (by decide) (fun K hK => ?_)
  have hs11 : w8.cell? ⟨gb105, 0, none⟩ = some (.slice none 0 0) := (qC BK105.out 0).trans rfl
  have hfs11 := qB BK105.out 0
  have hns11_0 := NB104_105.out
  have hms11_0 := NB105_104.out
  have hs12 : w8.cell? ⟨gb105, 1, none⟩ = some (.slice none 0 0) := (qC BK105.out 1).trans rfl
  have hfs12 := qB BK105.out 1
  have hns12_0 := NB104_105.out
  have hms12_0 := NB105_104.out
  have hs13 : w8.cell? ⟨gb105, 2, none⟩ = some (.int .i64 0) := (qC BK105.out 2).trans rfl
  have hfs13 := qB BK105.out 2
  have hns13_0 := NB104_105.out
  have hms13_0 := NB105_104.out
  have hs14 : w8.cell? ⟨gb105, 3, none⟩ = some (.int .i64 0) := (qC BK105.out 3).trans rfl
  have hfs14 := qB BK105.out 3
  have hns14_0 := NB104_105.out
  have hms14_0 := NB105_104.out
  refine skip_ (w1 := ?_) (by rfl) rfl ?_ ?_
  rotate_left
  · go_simp
    rfl
  refine hK.out _ _ ⟨((zL (p := ⟨gb105, _, none⟩) NB104_105.out _).trans (((zL (p := ⟨gb105, _, none⟩) NB104_105.out _).trans (((zL (p := ⟨gb105, _, none⟩) NB104_105.out _).trans (((zL (p := ⟨gb105, _, none⟩) NB104_105.out _).trans (hHeld.1)))))))), ((zL (p := ⟨gb105, _, none⟩) NB104_105.out _).trans (((zL (p := ⟨gb105, _, none⟩) NB104_105.out _).trans (((zL (p := ⟨gb105, _, none⟩) NB104_105.out _).trans (((zL (p := ⟨gb105, _, none⟩) NB104_105.out _).trans (hHeld.2.1)))))))), ((zL (p := ⟨gb105, _, none⟩) NB104_105.out _).trans (((zL (p := ⟨gb105, _, none⟩) NB104_105.out _).trans (((zL (p := ⟨gb105, _, none⟩) NB104_105.out _).trans (((zL (p := ⟨gb105, _, none⟩) NB104_105.out _).trans (hHeld.2.2.1)))))))), ((zL (p := ⟨gb105, _, none⟩) NB104_105.out _).trans (((zL (p := ⟨gb105, _, none⟩) NB104_105.out _).trans (((zL (p := ⟨gb105, _, none⟩) NB104_105.out _).trans (((zL (p := ⟨gb105, _, none⟩) NB104_105.out _).trans (hHeld.2.2.2))))))))⟩ (fun hHeld => ?_)
  clear hK K
  refine done_ (done_of HT_.out (by kernel_rfl)) ?_
  try go_wp2
  refine bodyPost_ret (results_cell_row rfl _ _ gb105 26 #[.slice Ao10 t106.length co10, .slice Ao9 t109.length co9, .int .i64 a0_2, .int .i64 a0_3] (0, 0) _ rfl (by (with_reducible repeat (first | refine qE ?_ _ | refine qI ?_ | refine qD ?_ _)); refine qU (cs := #[.slice Ao10 t106.length co10, .slice Ao9 t109.length co9, .int .i64 a0_2, .int .i64 0]) ?_ 3 _ rfl; (with_reducible repeat (first | refine qE ?_ _ | refine qI ?_ | refine qD ?_ _)); refine qU (cs := #[.slice Ao10 t106.length co10, .slice Ao9 t109.length co9, .int .i64 0, .int .i64 0]) ?_ 2 _ rfl; (with_reducible repeat (first | refine qE ?_ _ | refine qI ?_ | refine qD ?_ _)); refine qU (cs := #[.slice Ao10 t106.length co10, .slice none 0 0, .int .i64 0, .int .i64 0]) ?_ 1 _ rfl; (with_reducible repeat (first | refine qE ?_ _ | refine qI ?_ | refine qD ?_ _)); refine qU (cs := #[.slice none 0 0, .slice none 0 0, .int .i64 0, .int .i64 0]) ?_ 0 _ rfl; (with_reducible repeat (first | refine qE ?_ _ | refine qI ?_ | refine qD ?_ _)); exact BK105.out) Try.underlying26 rfl (by kernel_rfl)) rfl ?_
  exact ⟨_, _, by first | rfl | (simp [errW_none, errW_some] <;> rfl) | (simp [*, errW_none, errW_some] <;> rfl), by (with_reducible repeat (first | apply Kd.qK | apply Kd.qJ | apply Kd.qN)); exact Kd.qP (Kd.R_far (p := ⟨gb105, 3, none⟩) (Kd.R_far (p := ⟨gb105, 2, none⟩) (Kd.R_far (p := ⟨gb105, 1, none⟩) (Kd.R_far (p := ⟨gb105, 0, none⟩) (Kd.qV HO108.out BK105.out (by decide)) (fun _ hk => hk.2) (.slice Ao10 t106.length co10)) (fun _ hk => hk.2) (.slice Ao9 t109.length co9)) (fun _ hk => hk.2) (.int .i64 a0_2)) (fun _ hk => hk.2) (.int .i64 a0_3)) (fun _ hk => trivial), by (with_reducible repeat (first | apply Kd.qK | apply Kd.qJ | apply Kd.qN)); exact Kd.qP (Kd.R_far (p := ⟨gb105, 3, none⟩) (Kd.R_far (p := ⟨gb105, 2, none⟩) (Kd.R_far (p := ⟨gb105, 1, none⟩) (Kd.R_far (p := ⟨gb105, 0, none⟩) (Kd.qV HO111.out BK105.out (by decide)) (fun _ hk => hk.2) (.slice Ao10 t106.length co10)) (fun _ hk => hk.2) (.slice Ao9 t109.length co9)) (fun _ hk => hk.2) (.int .i64 a0_2)) (fun _ hk => hk.2) (.int .i64 a0_3)) (fun _ hk => trivial), by repeat (first | (with_reducible first | exact HB.out | apply qH | apply qA | apply qG | refine qF ?_ GE104.out | refine qF ?_ GE105.out) | exact HB.out)⟩

end Go.Proofs.Ytepihebkdnmppaa.Ag
