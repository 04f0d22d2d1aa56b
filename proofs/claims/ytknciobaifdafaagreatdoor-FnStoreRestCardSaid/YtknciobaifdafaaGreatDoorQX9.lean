/- Walks of the laws: FnStoreRead. -/
import Derived.Test.YtknciobaifdafaaGreatDoorQEZ
import Derived.Test.YtknciobaifdafaaGreatDoorQGO
import Derived.Test.YtknciobaifdafaaGreatDoorQDF
import Derived.Test.YtknciobaifdafaaGreatDoorQGJ
import Derived.Test.YtknciobaifdafaaGreatDoorQD
import Derived.Test.YtknciobaifdafaaGreatDoorQU
set_option linter.unusedVariables false
set_option maxRecDepth 100000
set_option maxHeartbeats 4000000
set_option linter.unusedSimpArgs false
namespace Go.Proofs.YtknciobaifdafaaGreatDoor.T
open Go Go.Pv Go.Proofs.YtknciobaifdafaaGreatDoor.EF
theorem wS {f : FuncId} {args : List PV} {s : Stor} {k : Bool} (h : Ok Tryz.prog f args (.tup [dJ s, vB k]) (aJ s)) : Ok Tryz.prog f args (.tup [aN s, vB k]) [] := by
  refine h.weak ?_
  simp only [aH]
  exact kp []
theorem yE (c : List Int) (hc : ∀ k, 0 ≤ c.getD k 0 ∧ c.getD k 0 ≤ 255) (hl : c.length ≤ 9223372036854775807) : Ok Tryz.prog 5 [.val c.length (c.map vU8)] (vB true) [] := by
  have n1 : (!(false == false)) = false := rfl
  have n2 : (!(true == true)) = false := rfl
  have y1 : (false == false) = true := rfl
  have y2 : (true == true) = true := rfl
  by_cases hlen : c.length ≤ 1048576
  · have hC : CodeOk c := ⟨hc, hlen⟩
    have hD := yw c hC
    obtain ⟨q1, q2, q3, q4⟩ := AY hC
    generalize gu c = d at hD q1 q2 q3 q4
    have hI := wS (gU d (by omega) (by omega))
    have hS := nU d (by omega) (by omega)
    rw [iY] at hI
    have hb := lC (d := d) (by omega) (by omega)
    obtain ⟨⟨s, k⟩, hR⟩ : ∃ R, R = ai d := ⟨_, rfl⟩
    rw [← hR] at hI hS hb
    dsimp only at hI hS hb
    cases k with
    | false =>
      have e := O3 hR.symm
      have hJ := iR s s (by rw [e]; decide) (by rw [e]; decide) (by rw [e]; decide) (by rw [e]; decide) (by rw [e]; decide) (by rw [e]; decide)
      rw [decide_eq_true rfl] at hJ
      refine stO Tryz.func5 [.tmp 2] 68 rfl rfl rfl ?_
      repeat' first | refine sS ?_ | ((with_reducible show aC ..); first | refine cF rfl rfl rfl rfl hJ ?_ | refine cR rfl rfl rfl rfl hD ?_ | refine cR rfl rfl rfl rfl hI ?_ | refine cR rfl rfl rfl rfl hS ?_) | refine sO (fun K' hK' => ?_) | (refine sE hK' ?_; clear hK') | (refine sD (fun hc => ?_) (fun hc => ?_) <;> try exact sZ hc) | ((with_reducible first | refine En.ret ?_ | refine En.normal ?_); simp only [go_sem, Nat.reduceAdd, Nat.reduceMul]) | (simp only [go_sem, Nat.reduceAdd, Nat.reduceMul, Nat.reduceEqDiff, Nat.reduceLT, Nat.reduceLeDiff, y1, Bool.not_true, Bool.not_false]; (all_goals fail_if_success show False)) | fail
      all_goals exact Out.flat' rfl
    | true =>
      obtain ⟨e1, e2⟩ := Ej hR.symm
      obtain ⟨hb1, _⟩ := hb rfl
      have p1 := hb1.disk.cells
      have p2 := hb1.disk.waits
      have p3 := hb1.pages
      have hJ := iR s s (by omega) (by omega) (by omega) (by omega) (by omega) (by omega)
      have hK := Dy s.disk s.disk (by omega) (by omega) (by omega) (by omega)
      have hO := iK s (by omega) (by omega) (by omega)
      rw [decide_eq_true rfl] at hJ hK
      rw [iI, e2] at hO
      rw [← e1] at hI hS hD
      refine stO Tryz.func5 [.tmp 2] 68 rfl rfl rfl ?_
      repeat' first | refine sS ?_ | ((with_reducible show aC ..); first | refine cF rfl rfl rfl rfl hJ ?_ | refine cF rfl rfl rfl rfl hK ?_ | refine cF rfl rfl rfl rfl hO ?_ | refine cR rfl rfl rfl rfl hD ?_ | refine cR rfl rfl rfl rfl hI ?_ | refine cR rfl rfl rfl rfl hS ?_) | refine sO (fun K' hK' => ?_) | (refine sE hK' ?_; clear hK') | (refine sD (fun hc => ?_) (fun hc => ?_) <;> try exact sZ hc) | ((with_reducible first | refine En.ret ?_ | refine En.normal ?_); simp only [go_sem, Nat.reduceAdd, Nat.reduceMul]) | (simp only [go_sem, Nat.reduceAdd, Nat.reduceMul, Nat.reduceEqDiff, Nat.reduceLT, Nat.reduceLeDiff, y2, Bool.not_true]; (all_goals fail_if_success show False)) | fail
      all_goals exact Out.flat' rfl
  · refine stO Tryz.func5 [.tmp 2] 68 rfl rfl rfl ?_
    repeat' first | refine sS ?_ | refine sO (fun K' hK' => ?_) | (refine sE hK' ?_; clear hK') | (refine sD (fun hc => ?_) (fun hc => ?_) <;> try exact sZ hc) | ((with_reducible first | refine En.ret ?_ | refine En.normal ?_); simp only [go_sem]) | (simp only [go_sem]; (all_goals fail_if_success show False)) | fail
    all_goals exact Out.flat' rfl
end Go.Proofs.YtknciobaifdafaaGreatDoor.T
