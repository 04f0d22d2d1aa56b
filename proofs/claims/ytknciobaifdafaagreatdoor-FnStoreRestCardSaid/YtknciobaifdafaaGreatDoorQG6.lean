/- The draws of the store, walked, part 6: limits, falls, steps. -/
import Derived.Test.YtknciobaifdafaaGreatDoorQEZ
import Derived.Test.YtknciobaifdafaaGreatDoorQG3
import Derived.Test.YtknciobaifdafaaGreatDoorQG5
import Derived.Test.YtknciobaifdafaaGreatDoorQC1
import Derived.Test.YtknciobaifdafaaGreatDoorQDC
set_option linter.unusedVariables false
set_option maxRecDepth 100000
set_option maxHeartbeats 4000000
set_option linter.unusedSimpArgs false
namespace Go.Proofs.YtknciobaifdafaaGreatDoor.T
open Go Go.Pv Go.Proofs.YtknciobaifdafaaGreatDoor.EF
theorem Dj (d : Dk) (room left : Int) (h1 : d.cells.length ≤ 2000000) (h2 : d.waits.length ≤ 2000000) : Ok Tryz.prog 186 [vDk d, vI room, vI left] (vDk (limD d room left)) [] := by
  have hO := yJ d (by omega) (by omega)
  have hC := jh d h1 h2
  by_cases h : dkOk d = true ∧ -1 ≤ room ∧ -1 ≤ left
  · rw [h.1] at hO
    rw [show limD d room left = ⟨d.cells, d.waits, room, left⟩ from if_pos h]
    refine stO Tryz.func186 [.cell 6 33] 27 rfl rfl rfl ?_
    repeat' first | refine sS ?_ | ((with_reducible show aC ..); first | refine cF rfl rfl rfl rfl hO ?_ | refine cR rfl rfl rfl rfl hC ?_) | refine sO (fun K' hK' => ?_) | (refine sI (fun hg => ?_) (fun hg K' hK' => ?_) <;> try exact sZ hg) | (refine sE hK' ?_; clear hK') | (refine sD (fun hc => ?_) (fun hc => ?_) <;> try exact sZ hc) | ((with_reducible first | refine En.ret ?_ | refine En.normal ?_); simp only [go_sem, Nat.reduceAdd, Nat.reduceMul, Nat.reduceEqDiff, Nat.reduceLT, Nat.reduceLeDiff]) | (simp only [go_sem, Nat.reduceAdd, Nat.reduceMul, Nat.reduceEqDiff, Nat.reduceLT, Nat.reduceLeDiff, Bool.not_true]; (all_goals fail_if_success show False)) | fail
    exact kp []
  · rw [show limD d room left = dk0 from if_neg h]
    generalize dkOk d = bo at hO h
    cases bo with
    | false =>
      refine stO Tryz.func186 [.cell 6 33] 27 rfl rfl rfl ?_
      repeat' first | refine sS ?_ | ((with_reducible show aC ..); refine cF rfl rfl rfl rfl hO ?_) | refine sO (fun K' hK' => ?_) | refine sY ?_ | (refine sE hK' ?_; clear hK') | (refine sD (fun hc => ?_) (fun hc => ?_) <;> try exact sZ hc) | ((with_reducible first | refine En.ret ?_ | refine En.normal ?_); simp only [go_sem, Nat.reduceAdd, Nat.reduceEqDiff, Nat.reduceLT, Nat.reduceLeDiff]) | (simp only [go_sem, Nat.reduceAdd, Nat.reduceMul, Nat.reduceEqDiff, Nat.reduceLT, Nat.reduceLeDiff, Bool.not_false]; (all_goals fail_if_success show False)) | fail
      all_goals exact Weak.intro [] (by simp) (by simp) (by simp) rfl (by simp [All2, vw, vwA, vwC, ax, dk0]) (fun _ h => h.elim)
    | true =>
      have h' : room < -1 ∨ left < -1 := by simp at h; omega
      refine stO Tryz.func186 [.cell 6 33] 27 rfl rfl rfl ?_
      repeat' first | refine sS ?_ | ((with_reducible show aC ..); refine cF rfl rfl rfl rfl hO ?_) | refine sO (fun K' hK' => ?_) | refine sY ?_ | (refine sI (fun hg => ?_) (fun hg K' hK' => ?_) <;> try exact sZ hg) | (refine sE hK' ?_; clear hK') | (refine sD (fun hc => ?_) (fun hc => ?_) <;> try exact sZ hc) | ((with_reducible first | refine En.ret ?_ | refine En.normal ?_); simp only [go_sem, Nat.reduceAdd, Nat.reduceEqDiff, Nat.reduceLT, Nat.reduceLeDiff]) | (simp only [go_sem, Nat.reduceAdd, Nat.reduceMul, Nat.reduceEqDiff, Nat.reduceLT, Nat.reduceLeDiff, Bool.not_true]; (all_goals fail_if_success show False)) | fail
      all_goals exact Weak.intro [] (by simp) (by simp) (by simp) rfl (by simp [All2, vw, vwA, vwC, ax, dk0]) (fun _ h => h.elim)
theorem pW {d : Dk} {mask cut bytes : Int} : (dH d mask cut bytes).cells.length ≤ 42 ∧ (dH d mask cut bytes).waits.length = 0 ∧ (dH d mask cut bytes).room ≤ 0 ∧ (dH d mask cut bytes).left ≤ 0 := by
  unfold dH
  split
  · rename_i h
    have := (Ap h.1).1
    dsimp only
    rw [ik, this]
    exact ⟨Nat.le_refl _, rfl, by decide, by decide⟩
  · exact ⟨Nat.zero_le _, rfl, Int.le_refl _, Int.le_refl _⟩
structure StepB (e : Step) : Prop where
  left : e.left ≤ 1000000
  room : e.room ≤ 1000000
  mask : -9223372036854775807 ≤ e.mask ∧ e.mask ≤ 9223372036854775807
  bytes : -1000000000 ≤ e.bytes ∧ e.bytes ≤ 1000000000
  len : e.list.length ≤ 2000000
theorem Au (d : Dk) (e : Step) (h1 : d.cells.length ≤ 2000000) (h2 : d.waits.length ≤ 2000000) (he : StepB e) : Ok Tryz.prog 169 [vDk d, tJ e] (aN (nJ d e)) [] := by
  have hC1 := nK d e.mask e.cut e.bytes h1 h2 he.mask he.bytes
  have hl1 := pW (d := d) (mask := e.mask) (cut := e.cut) (bytes := e.bytes)
  unfold nJ kQ
  generalize dH d e.mask e.cut e.bytes = X1 at hC1 hl1 ⊢
  cases ha : e.again with
  | false =>
    rw [if_neg (by simp)]
    have hR := ji X1 (by omega) (by omega) (by omega) (by omega)
    generalize dn (ai X1) = R at hR ⊢
    refine stO Tryz.func169 [.cell 4 35] 43 rfl rfl rfl ?_
    repeat' first | refine sS ?_ | ((with_reducible show aC ..); first | refine cR rfl rfl rfl rfl hC1 ?_ | refine cR rfl rfl rfl rfl hR ?_) | refine sO (fun K' hK' => ?_) | (refine sE hK' ?_; clear hK') | (refine sD (fun hc => ?_) (fun hc => ?_) <;> try exact sZ hc) | ((with_reducible first | refine En.ret ?_ | refine En.normal ?_); simp only [go_sem, Nat.reduceAdd, Nat.reduceMul, Nat.reduceEqDiff, Nat.reduceLT, Nat.reduceLeDiff]) | (simp only [go_sem, Nat.reduceAdd, Nat.reduceMul, Nat.reduceEqDiff, Nat.reduceLT, Nat.reduceLeDiff, ha]; (all_goals fail_if_success show False)) | fail
    all_goals exact kp []
  | true =>
    rw [if_pos rfl]
    have hL := Dj X1 (-1) e.left (by omega) (by omega)
    have hl2 : (limD X1 (-1) e.left).cells.length ≤ 42 ∧ (limD X1 (-1) e.left).waits.length = 0 ∧ (limD X1 (-1) e.left).room ≤ 0 ∧ (limD X1 (-1) e.left).left ≤ 1000000 := by
      unfold limD
      split
      · exact ⟨hl1.1, hl1.2.1, (by decide : (-1 : Int) ≤ 0), he.left⟩
      · exact ⟨Nat.zero_le _, rfl, Int.le_refl _, (by decide : (0 : Int) ≤ 1000000)⟩
    generalize limD X1 (-1) e.left = X2 at hL hl2 ⊢
    have hR := ji X2 (by omega) (by omega) (by omega) (by omega)
    have hl3 := ru (d := X2) (by omega) (by omega)
    generalize dn (ai X2) = R at hR hl3 ⊢
    have hC2 := nK R.1.disk e.mask e.cut e.bytes (by omega) (by omega) he.mask he.bytes
    have hl4 := pW (d := R.1.disk) (mask := e.mask) (cut := e.cut) (bytes := e.bytes)
    generalize dH R.1.disk e.mask e.cut e.bytes = X3 at hC2 hl4 ⊢
    have hR2 := ji X3 (by omega) (by omega) (by omega) (by omega)
    generalize dn (ai X3) = R2 at hR2 ⊢
    refine stO Tryz.func169 [.cell 4 35] 43 rfl rfl rfl ?_
    repeat' first | refine sS ?_ | ((with_reducible show aC ..); first | refine cR rfl rfl rfl rfl hC1 ?_ | refine cR rfl rfl rfl rfl hL ?_ | refine cR rfl rfl rfl rfl hR ?_ | refine cR rfl rfl rfl rfl hC2 ?_ | refine cR rfl rfl rfl rfl hR2 ?_) | refine sO (fun K' hK' => ?_) | (refine sE hK' ?_; clear hK') | (refine sD (fun hc => ?_) (fun hc => ?_) <;> try exact sZ hc) | ((with_reducible first | refine En.ret ?_ | refine En.normal ?_); simp only [go_sem, Nat.reduceAdd, Nat.reduceMul, Nat.reduceEqDiff, Nat.reduceLT, Nat.reduceLeDiff]) | (simp only [go_sem, Nat.reduceAdd, Nat.reduceMul, Nat.reduceEqDiff, Nat.reduceLT, Nat.reduceLeDiff, ha]; (all_goals fail_if_success show False)) | fail
    all_goals exact kp []
theorem JA (s : Stor) (room left : Int) : fZ (ag s) s room left = setS s room left := rfl
theorem wO (s : Stor) (room left : Int) : (setS s room left).disk.cells.length ≤ s.disk.cells.length ∧ (setS s room left).disk.waits.length ≤ s.disk.waits.length ∧ (setS s room left).pages.length ≤ s.pages.length ∧ ((setS s room left).disk.room ≤ 0 ∨ (setS s room left).disk.room = room) ∧ ((setS s room left).disk.left ≤ 0 ∨ (setS s room left).disk.left = left) := by
  unfold setS
  split
  · exact ⟨Nat.le_refl _, Nat.le_refl _, Nat.le_refl _, .inr rfl, .inr rfl⟩
  · exact ⟨Nat.zero_le _, Nat.zero_le _, Nat.zero_le _, .inl (Int.le_refl _), .inl (Int.le_refl _)⟩
theorem IM (s : Stor) (e : Step) (hg : Go.Pv.Good s) (hr : -1 ≤ s.disk.room) (hl : -1 ≤ s.disk.left) (hrm : -1 ≤ e.room) (hlf : -1 ≤ e.left) (he : StepB e) : Ok Tryz.prog 147 [aN s, tJ e] (aN (stepS s e)) [] := by
  have hlen := hg.len
  have hwt : s.disk.waits.length = 0 := by rw [hg.waits]; rfl
  have hpl := hg.pages_len
  have hS : ∀ room left : Int, Ok Tryz.prog 26 [aN s, vI room, vI left] (aN (setS s room left)) [] := fun room left => ku s room left (by omega) (by omega) (by omega)
  have hgood : ∀ room left : Int, -1 ≤ room → -1 ≤ left → room ≤ 1000000 → left ≤ 1000000 → ag (setS s room left) = true ∧ StB (setS s room left) := fun room left a b c d => by
    have e1 := rO hg hr hl a b
    have hk : ag (setS s room left) = true := by rw [e1]; exact gV (hg.lim room left) a b
    exact ⟨hk, gZ (by rw [e1]; dsimp only; omega) (by rw [e1]; dsimp only; omega) hk⟩
  have hbr := he.room
  have hbl := he.left
  unfold stepS
  by_cases k1 : e.kind = 1
  · rw [if_pos k1]
    obtain ⟨g1, g2⟩ := hgood e.room (-1) hrm (Int.le_refl _) hbr (by omega)
    have h1 := hS e.room (-1)
    have hb := lS g2
    have hp2 := g2.pages
    generalize setS s e.room (-1) = S0 at h1 g1 g2 hb hp2 ⊢
    have hR := kM S0 g2.disk hp2 (by have := g2.turn; omega) (by have := g2.tries; omega)
    generalize ah S0 = R at hR hb ⊢
    have h2 := ku R.1 (-1) (-1) (by have := hb.1.cells; omega) (by have := hb.1.waits; omega) (by rw [hb.2]; omega)
    rw [JA] at h2
    generalize setS R.1 (-1) (-1) = Z at h2 ⊢
    refine stO Tryz.func147 [.cell 4 35] 74 rfl rfl rfl ?_
    repeat' first | refine sS ?_ | ((with_reducible show aC ..); first | refine cR rfl rfl rfl rfl h1 ?_ | refine cR rfl rfl rfl rfl hR ?_ | refine cR rfl rfl rfl rfl h2 ?_) | refine sO (fun K' hK' => ?_) | (refine sE hK' ?_; clear hK') | (refine sD (fun hc => ?_) (fun hc => ?_) <;> try exact sZ hc) | ((with_reducible first | refine En.ret ?_ | refine En.normal ?_); simp only [go_sem, Nat.reduceAdd, Nat.reduceMul, Nat.reduceEqDiff, Nat.reduceLT, Nat.reduceLeDiff]) | (simp only [go_sem, Nat.reduceAdd, Nat.reduceMul, Nat.reduceEqDiff, Nat.reduceLT, Nat.reduceLeDiff, k1]; (all_goals fail_if_success show False)) | fail
    all_goals exact kp []
  · rw [if_neg k1]
    by_cases k2 : e.kind = 2
    · rw [if_pos k2]
      have h1 := hS e.room (-1)
      have hl0 := wO s e.room (-1)
      generalize setS s e.room (-1) = S0 at h1 hl0 ⊢
      have hC := dV S0 e.list (by omega) (by omega) (by omega) he.len (by omega) (by omega)
      have hcl := fH (s := S0) (l := e.list) (by omega) (by omega)
      generalize aG (ag S0) S0 e.list = R at hC hcl ⊢
      have h2 := ku R.1 (-1) (-1) (by omega) (by omega) (by omega)
      rw [JA] at h2
      generalize setS R.1 (-1) (-1) = Z at h2 ⊢
      refine stO Tryz.func147 [.cell 4 35] 74 rfl rfl rfl ?_
      repeat' first | refine yQ ?_ | refine sP ?_ | ((with_reducible show W _ _ (.region 5 _ _) _ _); refine dA 13 10 98464 ?_) | refine sS ?_ | ((with_reducible show aC ..); refine cR rfl rfl rfl rfl h2 ?_) | ((with_reducible show uC ..); first | refine uR rfl rfl rfl rfl h1 ?_ | refine uR rfl rfl rfl rfl hC ?_) | refine sO (fun K' hK' => ?_) | refine yA (fun K' hA' => ?_) | (refine sE hK' ?_; clear hK') | (refine sE hA' ?_; clear hA') | (refine sD (fun hc => ?_) (fun hc => ?_) <;> try exact sZ hc) | ((with_reducible first | refine En.ret ?_ | refine En.normal ?_); simp only [go_sem, Nat.reduceAdd, Nat.reduceMul, Nat.reduceEqDiff, Nat.reduceLT, Nat.reduceLeDiff]) | (simp only [go_sem, Nat.reduceAdd, Nat.reduceMul, Nat.reduceEqDiff, Nat.reduceLT, Nat.reduceLeDiff, k2]; (all_goals fail_if_success show False)) | fail
      all_goals exact kp []
    · rw [if_neg k2]
      by_cases k3 : e.kind = 3
      · rw [if_pos k3]
        have h1 := hS e.room e.left
        have hl0 := wO s e.room e.left
        generalize setS s e.room e.left = S0 at h1 hl0 ⊢
        have hC := dV S0 e.list (by omega) (by omega) (by omega) he.len (by omega) (by omega)
        have hcl := fH (s := S0) (l := e.list) (by omega) (by omega)
        generalize aG (ag S0) S0 e.list = R at hC hcl ⊢
        have h2 := Au R.1.disk e (by omega) (by omega) he
        generalize nJ R.1.disk e = Z at h2 ⊢
        refine stO Tryz.func147 [.cell 4 35] 74 rfl rfl rfl ?_
        repeat' first | refine yQ ?_ | refine sP ?_ | ((with_reducible show W _ _ (.region 8 _ _) _ _); refine dA 15 12 147648 ?_) | refine sS ?_ | ((with_reducible show aC ..); refine cR rfl rfl rfl rfl h2 ?_) | ((with_reducible show uC ..); first | refine uR rfl rfl rfl rfl h1 ?_ | refine uR rfl rfl rfl rfl hC ?_) | refine sO (fun K' hK' => ?_) | refine yA (fun K' hA' => ?_) | (refine sE hK' ?_; clear hK') | (refine sE hA' ?_; clear hA') | (refine sD (fun hc => ?_) (fun hc => ?_) <;> try exact sZ hc) | ((with_reducible first | refine En.ret ?_ | refine En.normal ?_); simp only [go_sem, Nat.reduceAdd, Nat.reduceMul, Nat.reduceEqDiff, Nat.reduceLT, Nat.reduceLeDiff]) | (simp only [go_sem, Nat.reduceAdd, Nat.reduceMul, Nat.reduceEqDiff, Nat.reduceLT, Nat.reduceLeDiff]; (all_goals fail_if_success show False)) | fail
        all_goals exact kp []
      · rw [if_neg k3]
        obtain ⟨g1, g2⟩ := hgood e.room e.left hrm hlf hbr hbl
        have h1 := hS e.room e.left
        have hb := lS g2
        have hp2 := g2.pages
        generalize setS s e.room e.left = S0 at h1 g1 g2 hb hp2 ⊢
        have hR := kM S0 g2.disk hp2 (by have := g2.turn; omega) (by have := g2.tries; omega)
        generalize ah S0 = R at hR hb ⊢
        have h2 := Au R.1.disk e (by have := hb.1.cells; omega) (by have := hb.1.waits; omega) he
        generalize nJ R.1.disk e = Z at h2 ⊢
        refine stO Tryz.func147 [.cell 4 35] 74 rfl rfl rfl ?_
        repeat' first | refine sS ?_ | ((with_reducible show aC ..); first | refine cR rfl rfl rfl rfl h1 ?_ | refine cR rfl rfl rfl rfl hR ?_ | refine cR rfl rfl rfl rfl h2 ?_) | refine sO (fun K' hK' => ?_) | (refine sE hK' ?_; clear hK') | (refine sD (fun hc => ?_) (fun hc => ?_) <;> try exact sZ hc) | ((with_reducible first | refine En.ret ?_ | refine En.normal ?_); simp only [go_sem, Nat.reduceAdd, Nat.reduceMul, Nat.reduceEqDiff, Nat.reduceLT, Nat.reduceLeDiff]) | (simp only [go_sem, Nat.reduceAdd, Nat.reduceMul, Nat.reduceEqDiff, Nat.reduceLT, Nat.reduceLeDiff]; (all_goals fail_if_success show False)) | fail
        all_goals exact kp []
end Go.Proofs.YtknciobaifdafaaGreatDoor.T
set_option linter.unusedVariables false
set_option maxRecDepth 100000
set_option maxHeartbeats 4000000
set_option linter.unusedSimpArgs false
namespace Go.Proofs.YtknciobaifdafaaGreatDoor.T
open Go Go.Pv Go.Proofs.YtknciobaifdafaaGreatDoor.EF
theorem tN (d : Dk) (s2 : Stor) (h1 : d.cells.length ≤ 2000000) (h2 : d.waits.length ≤ 2000000) (hr : ai d = (s2, true)) (hg : Go.Pv.Good s2) (hrm : s2.disk.room = -1) (hlf : s2.disk.left = -1) (h9 : s2.turn < 99999) (hz : (ah s2).2 = 0) : Ok Tryz.prog 36 [vDk d] (.tup [dJ (ah s2).1, vI 0]) (aJ (ah s2).1) := by
  have hO := nU d (by omega) (by omega)
  rw [hr] at hO
  have hR := IL s2 hg hrm hlf h9
  rw [hz] at hR
  generalize (ah s2).1 = Z at hR ⊢
  refine stO Tryz.func36 [.cell 2 35, .tmp 3] 29 rfl rfl rfl ?_
  repeat' first | refine sS ?_ | ((with_reducible show aC ..); first | refine cR rfl rfl rfl rfl hO ?_ | refine cR rfl rfl rfl rfl hR ?_) | refine sO (fun K' hK' => ?_) | (refine sE hK' ?_; clear hK') | (refine sD (fun hc => ?_) (fun hc => ?_) <;> try exact sZ hc) | ((with_reducible first | refine En.ret ?_ | refine En.normal ?_); simp only [go_sem, Nat.reduceAdd, Nat.reduceMul, Nat.reduceEqDiff, Nat.reduceLT, Nat.reduceLeDiff]) | (simp only [go_sem, Nat.reduceAdd, Nat.reduceMul, Nat.reduceEqDiff, Nat.reduceLT, Nat.reduceLeDiff, Bool.not_true]; (all_goals fail_if_success show False)) | fail
  all_goals
    simp only [aJ]
    exact kp [⟨81936, 0, 9, (Z.disk.cells.map vS)⟩, ⟨81937, 1, 110, (Z.disk.waits.flatMap cWt)⟩, ⟨81938, 2, 9, (Z.pages.map vS)⟩]
theorem Dl (d : Dk) (e : Step) (s2 : Stor) (h1 : d.cells.length ≤ 2000000) (h2 : d.waits.length ≤ 2000000) (he : StepB e) (hr : ai (kQ (dH d e.mask e.cut e.bytes) e) = (s2, true)) (hg : Go.Pv.Good s2) (hrm : s2.disk.room = -1) (hlf : s2.disk.left = -1) (h9 : s2.turn < 99999) (hz : (ah s2).2 = 0) :
    Ok Tryz.prog 169 [vDk d, tJ e] (dJ (ah s2).1) (aJ (ah s2).1) := by
  have hC1 := nK d e.mask e.cut e.bytes h1 h2 he.mask he.bytes
  have hl1 := pW (d := d) (mask := e.mask) (cut := e.cut) (bytes := e.bytes)
  unfold kQ at hr
  generalize dH d e.mask e.cut e.bytes = X1 at hC1 hl1 hr
  cases ha : e.again with
  | false =>
    rw [ha, if_neg (by simp)] at hr
    have hR := tN X1 s2 (by omega) (by omega) hr hg hrm hlf h9 hz
    generalize (ah s2).1 = Z at hR ⊢
    refine stO Tryz.func169 [.cell 4 35] 43 rfl rfl rfl ?_
    repeat' first | refine sS ?_ | ((with_reducible show aC ..); first | refine cR rfl rfl rfl rfl hC1 ?_ | refine cR rfl rfl rfl rfl hR ?_) | refine sO (fun K' hK' => ?_) | (refine sE hK' ?_; clear hK') | (refine sD (fun hc => ?_) (fun hc => ?_) <;> try exact sZ hc) | ((with_reducible first | refine En.ret ?_ | refine En.normal ?_); simp only [go_sem, Nat.reduceAdd, Nat.reduceMul, Nat.reduceEqDiff, Nat.reduceLT, Nat.reduceLeDiff]) | (simp only [go_sem, Nat.reduceAdd, Nat.reduceMul, Nat.reduceEqDiff, Nat.reduceLT, Nat.reduceLeDiff, ha]; (all_goals fail_if_success show False)) | fail
    all_goals
      simp only [aJ]
      exact kp [⟨98320, 0, 9, (Z.disk.cells.map vS)⟩, ⟨98321, 1, 110, (Z.disk.waits.flatMap cWt)⟩, ⟨98322, 2, 9, (Z.pages.map vS)⟩]
  | true =>
    rw [ha, if_pos rfl] at hr
    have hL := Dj X1 (-1) e.left (by omega) (by omega)
    have hl2 : (limD X1 (-1) e.left).cells.length ≤ 42 ∧ (limD X1 (-1) e.left).waits.length = 0 ∧ (limD X1 (-1) e.left).room ≤ 0 ∧ (limD X1 (-1) e.left).left ≤ 1000000 := by
      unfold limD
      split
      · exact ⟨hl1.1, hl1.2.1, (by decide : (-1 : Int) ≤ 0), he.left⟩
      · exact ⟨Nat.zero_le _, rfl, Int.le_refl _, (by decide : (0 : Int) ≤ 1000000)⟩
    generalize limD X1 (-1) e.left = X2 at hL hl2 hr
    have hR := ji X2 (by omega) (by omega) (by omega) (by omega)
    have hl3 := ru (d := X2) (by omega) (by omega)
    generalize dn (ai X2) = R at hR hl3 hr
    have hC2 := nK R.1.disk e.mask e.cut e.bytes (by omega) (by omega) he.mask he.bytes
    have hl4 := pW (d := R.1.disk) (mask := e.mask) (cut := e.cut) (bytes := e.bytes)
    generalize dH R.1.disk e.mask e.cut e.bytes = X3 at hC2 hl4 hr
    have hR2 := tN X3 s2 (by omega) (by omega) hr hg hrm hlf h9 hz
    generalize (ah s2).1 = Z at hR2 ⊢
    refine stO Tryz.func169 [.cell 4 35] 43 rfl rfl rfl ?_
    repeat' first | refine sS ?_ | ((with_reducible show aC _ _ _ _ (some 39) ..); refine cR rfl rfl rfl rfl hR2 ?_) | ((with_reducible show aC ..); first | refine cR rfl rfl rfl rfl hC1 ?_ | refine cR rfl rfl rfl rfl hL ?_ | refine cR rfl rfl rfl rfl hR ?_ | refine cR rfl rfl rfl rfl hC2 ?_) | refine sO (fun K' hK' => ?_) | (refine sE hK' ?_; clear hK') | (refine sD (fun hc => ?_) (fun hc => ?_) <;> try exact sZ hc) | ((with_reducible first | refine En.ret ?_ | refine En.normal ?_); simp only [go_sem, Nat.reduceAdd, Nat.reduceMul, Nat.reduceEqDiff, Nat.reduceLT, Nat.reduceLeDiff]) | (simp only [go_sem, Nat.reduceAdd, Nat.reduceMul, Nat.reduceEqDiff, Nat.reduceLT, Nat.reduceLeDiff, ha]; (all_goals fail_if_success show False)) | fail
    all_goals
      simp only [aJ]
      exact kp [⟨98320, 0, 9, (Z.disk.cells.map vS)⟩, ⟨98321, 1, 110, (Z.disk.waits.flatMap cWt)⟩, ⟨98322, 2, 9, (Z.pages.map vS)⟩]
end Go.Proofs.YtknciobaifdafaaGreatDoor.T
set_option linter.unusedVariables false
set_option maxRecDepth 100000
set_option maxHeartbeats 4000000
set_option linter.unusedSimpArgs false
namespace Go.Proofs.YtknciobaifdafaaGreatDoor.T
open Go Go.Pv Go.Proofs.YtknciobaifdafaaGreatDoor.EF
theorem Dn {s : Stor} {room left : Int} (h : Go.Pv.Good (setS s room left)) : ag s = true ∧ -1 ≤ room ∧ -1 ≤ left := by
  by_cases c : ag s = true ∧ -1 ≤ room ∧ -1 ≤ left
  · exact c
  · have := h.len
    unfold setS at this
    rw [if_neg c] at this
    exact absurd this (by decide)
theorem Ld (s : Stor) (e : Step) (hg : Go.Pv.Good s) (hr : -1 ≤ s.disk.room) (hl : -1 ≤ s.disk.left) (hrm : -1 ≤ e.room) (hlf : -1 ≤ e.left) (he : StepB e) (hN : Go.Pv.Good (stepS s e)) (hU : IA s e) : Ok Tryz.prog 147 [aN s, tJ e] (dJ (stepS s e)) (aJ (stepS s e)) := by
  have hlen := hg.len
  have hwt : s.disk.waits.length = 0 := by rw [hg.waits]; rfl
  have hpl := hg.pages_len
  have hS : ∀ room left : Int, Ok Tryz.prog 26 [aN s, vI room, vI left] (aN (setS s room left)) [] := fun room left => ku s room left (by omega) (by omega) (by omega)
  have hgood : ∀ room left : Int, -1 ≤ room → -1 ≤ left → room ≤ 1000000 → left ≤ 1000000 → ag (setS s room left) = true ∧ StB (setS s room left) := fun room left a b c d => by
    have e1 := rO hg hr hl a b
    have hk : ag (setS s room left) = true := by rw [e1]; exact gV (hg.lim room left) a b
    exact ⟨hk, gZ (by rw [e1]; dsimp only; omega) (by rw [e1]; dsimp only; omega) hk⟩
  have hbr := he.room
  have hbl := he.left
  obtain ⟨hU3, hU4⟩ := hU
  unfold stepS at hN ⊢
  by_cases k1 : e.kind = 1
  · rw [if_pos k1] at hN ⊢
    obtain ⟨g1, g2⟩ := hgood e.room (-1) hrm (Int.le_refl _) hbr (by omega)
    have h1 := hS e.room (-1)
    have hb := lS g2
    have hp2 := g2.pages
    generalize setS s e.room (-1) = S0 at h1 g1 g2 hb hp2 hN ⊢
    have hR := kM S0 g2.disk hp2 (by have := g2.turn; omega) (by have := g2.tries; omega)
    generalize ah S0 = R at hR hb hN ⊢
    have h2 := wM R.1 (-1) (-1) (by have := hb.1.cells; omega) (by have := hb.1.waits; omega) (by rw [hb.2]; omega) (Dn hN)
    generalize setS R.1 (-1) (-1) = Z at h2 ⊢
    refine stO Tryz.func147 [.cell 4 35] 74 rfl rfl rfl ?_
    repeat' first | refine sS ?_ | ((with_reducible show aC ..); first | refine cR rfl rfl rfl rfl h1 ?_ | refine cR rfl rfl rfl rfl hR ?_ | refine cR rfl rfl rfl rfl h2 ?_) | refine sO (fun K' hK' => ?_) | (refine sE hK' ?_; clear hK') | (refine sD (fun hc => ?_) (fun hc => ?_) <;> try exact sZ hc) | ((with_reducible first | refine En.ret ?_ | refine En.normal ?_); simp only [go_sem, Nat.reduceAdd, Nat.reduceMul, Nat.reduceEqDiff, Nat.reduceLT, Nat.reduceLeDiff]) | (simp only [go_sem, Nat.reduceAdd, Nat.reduceMul, Nat.reduceEqDiff, Nat.reduceLT, Nat.reduceLeDiff, k1]; (all_goals fail_if_success show False)) | fail
    all_goals
      simp only [aJ]
      exact kp [⟨65552, 0, 9, (Z.disk.cells.map vS)⟩, ⟨65553, 1, 110, (Z.disk.waits.flatMap cWt)⟩, ⟨65554, 2, 9, (Z.pages.map vS)⟩]
  · rw [if_neg k1] at hN ⊢
    by_cases k2 : e.kind = 2
    · rw [if_pos k2] at hN ⊢
      have h1 := hS e.room (-1)
      have hl0 := wO s e.room (-1)
      generalize setS s e.room (-1) = S0 at h1 hl0 hN ⊢
      have hC := dV S0 e.list (by omega) (by omega) (by omega) he.len (by omega) (by omega)
      have hcl := fH (s := S0) (l := e.list) (by omega) (by omega)
      generalize aG (ag S0) S0 e.list = R at hC hcl hN ⊢
      have h2 := wM R.1 (-1) (-1) (by omega) (by omega) (by omega) (Dn hN)
      generalize setS R.1 (-1) (-1) = Z at h2 ⊢
      refine stO Tryz.func147 [.cell 4 35] 74 rfl rfl rfl ?_
      repeat' first | refine yQ ?_ | refine sP ?_ | ((with_reducible show W _ _ (.region 5 _ _) _ _); refine dA 13 10 98464 ?_) | refine sS ?_ | ((with_reducible show aC ..); refine cR rfl rfl rfl rfl h2 ?_) | ((with_reducible show uC ..); first | refine uR rfl rfl rfl rfl h1 ?_ | refine uR rfl rfl rfl rfl hC ?_) | refine sO (fun K' hK' => ?_) | refine yA (fun K' hA' => ?_) | (refine sE hK' ?_; clear hK') | (refine sE hA' ?_; clear hA') | (refine sD (fun hc => ?_) (fun hc => ?_) <;> try exact sZ hc) | ((with_reducible first | refine En.ret ?_ | refine En.normal ?_); simp only [go_sem, Nat.reduceAdd, Nat.reduceMul, Nat.reduceEqDiff, Nat.reduceLT, Nat.reduceLeDiff]) | (simp only [go_sem, Nat.reduceAdd, Nat.reduceMul, Nat.reduceEqDiff, Nat.reduceLT, Nat.reduceLeDiff, k2]; (all_goals fail_if_success show False)) | fail
      all_goals
        simp only [aJ]
        exact kp [⟨114704, 0, 9, (Z.disk.cells.map vS)⟩, ⟨114705, 1, 110, (Z.disk.waits.flatMap cWt)⟩, ⟨114706, 2, 9, (Z.pages.map vS)⟩]
    · rw [if_neg k2] at hN ⊢
      by_cases k3 : e.kind = 3
      · rw [if_pos k3] at hN ⊢
        have hUp := hU3 k3
        have h1 := hS e.room e.left
        have hl0 := wO s e.room e.left
        generalize setS s e.room e.left = S0 at h1 hl0 hN hUp ⊢
        have hC := dV S0 e.list (by omega) (by omega) (by omega) he.len (by omega) (by omega)
        have hcl := fH (s := S0) (l := e.list) (by omega) (by omega)
        generalize aG (ag S0) S0 e.list = R at hC hcl hN hUp ⊢
        obtain ⟨s2, u1, u2, u3, u4, u5, u6⟩ := hUp
        have h2 := Dl R.1.disk e s2 (by omega) (by omega) he u1 u2 u3 u4 u5 u6
        have eZ : nJ R.1.disk e = (ah s2).1 := by
          unfold nJ
          rw [u1]
          unfold dn
          rw [if_pos rfl]
          unfold nD
          dsimp only
          rw [if_pos u6]
        rw [eZ]
        generalize (ah s2).1 = Z at h2 ⊢
        refine stO Tryz.func147 [.cell 4 35] 74 rfl rfl rfl ?_
        repeat' first | refine yQ ?_ | refine sP ?_ | ((with_reducible show W _ _ (.region 8 _ _) _ _); refine dA 15 12 147648 ?_) | refine sS ?_ | ((with_reducible show aC ..); refine cR rfl rfl rfl rfl h2 ?_) | ((with_reducible show uC ..); first | refine uR rfl rfl rfl rfl h1 ?_ | refine uR rfl rfl rfl rfl hC ?_) | refine sO (fun K' hK' => ?_) | refine yA (fun K' hA' => ?_) | (refine sE hK' ?_; clear hK') | (refine sE hA' ?_; clear hA') | (refine sD (fun hc => ?_) (fun hc => ?_) <;> try exact sZ hc) | ((with_reducible first | refine En.ret ?_ | refine En.normal ?_); simp only [go_sem, Nat.reduceAdd, Nat.reduceMul, Nat.reduceEqDiff, Nat.reduceLT, Nat.reduceLeDiff]) | (simp only [go_sem, Nat.reduceAdd, Nat.reduceMul, Nat.reduceEqDiff, Nat.reduceLT, Nat.reduceLeDiff]; (all_goals fail_if_success show False)) | fail
        all_goals
          simp only [aJ]
          exact kp [⟨163888, 0, 9, (Z.disk.cells.map vS)⟩, ⟨163889, 1, 110, (Z.disk.waits.flatMap cWt)⟩, ⟨163890, 2, 9, (Z.pages.map vS)⟩]
      · rw [if_neg k3] at hN ⊢
        have hUp := hU4 k1 k2 k3
        obtain ⟨g1, g2⟩ := hgood e.room e.left hrm hlf hbr hbl
        have h1 := hS e.room e.left
        have hb := lS g2
        have hp2 := g2.pages
        generalize setS s e.room e.left = S0 at h1 g1 g2 hb hp2 hN hUp ⊢
        have hR := kM S0 g2.disk hp2 (by have := g2.turn; omega) (by have := g2.tries; omega)
        generalize ah S0 = R at hR hb hN hUp ⊢
        obtain ⟨s2, u1, u2, u3, u4, u5, u6⟩ := hUp
        have h2 := Dl R.1.disk e s2 (by have := hb.1.cells; omega) (by have := hb.1.waits; omega) he u1 u2 u3 u4 u5 u6
        have eZ : nJ R.1.disk e = (ah s2).1 := by
          unfold nJ
          rw [u1]
          unfold dn
          rw [if_pos rfl]
          unfold nD
          dsimp only
          rw [if_pos u6]
        rw [eZ]
        generalize (ah s2).1 = Z at h2 ⊢
        refine stO Tryz.func147 [.cell 4 35] 74 rfl rfl rfl ?_
        repeat' first | refine sS ?_ | ((with_reducible show aC ..); first | refine cR rfl rfl rfl rfl h1 ?_ | refine cR rfl rfl rfl rfl hR ?_ | refine cR rfl rfl rfl rfl h2 ?_) | refine sO (fun K' hK' => ?_) | (refine sE hK' ?_; clear hK') | (refine sD (fun hc => ?_) (fun hc => ?_) <;> try exact sZ hc) | ((with_reducible first | refine En.ret ?_ | refine En.normal ?_); simp only [go_sem, Nat.reduceAdd, Nat.reduceMul, Nat.reduceEqDiff, Nat.reduceLT, Nat.reduceLeDiff]) | (simp only [go_sem, Nat.reduceAdd, Nat.reduceMul, Nat.reduceEqDiff, Nat.reduceLT, Nat.reduceLeDiff]; (all_goals fail_if_success show False)) | fail
        all_goals
          simp only [aJ]
          exact kp [⟨196656, 0, 9, (Z.disk.cells.map vS)⟩, ⟨196657, 1, 110, (Z.disk.waits.flatMap cWt)⟩, ⟨196658, 2, 9, (Z.pages.map vS)⟩]
end Go.Proofs.YtknciobaifdafaaGreatDoor.T
