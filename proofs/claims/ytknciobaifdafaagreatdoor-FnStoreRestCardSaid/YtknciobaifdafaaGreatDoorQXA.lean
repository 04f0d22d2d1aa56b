/- Walks of the laws: FnStoreRest. -/
import Derived.Test.YtknciobaifdafaaGreatDoorQEZ
import Derived.Test.YtknciobaifdafaaGreatDoorQXB
import Derived.Test.YtknciobaifdafaaGreatDoorQGS
set_option linter.unusedVariables false
set_option maxRecDepth 100000
set_option maxHeartbeats 40000000
set_option linter.unusedSimpArgs false
namespace Go.Proofs.YtknciobaifdafaaGreatDoor.T
open Go Go.Pv Go.Proofs.YtknciobaifdafaaGreatDoor.EF
theorem lawStoreRest_ok (c : List Int) (hc : ∀ k, 0 ≤ c.getD k 0 ∧ c.getD k 0 ≤ 255) (hl : c.length ≤ 9223372036854775807) : Ok Tryz.prog 7 [.val c.length (c.map vU8)] (vB true) [] := by
  by_cases hlen : c.length ≤ 1048576
  · have hC : CodeOk c := ⟨hc, hlen⟩
    have hD := G6 c hC
    have hq := IX hC
    generalize oP c = s at hD hq
    have q1 := hq.disk.cells
    have q2 := hq.disk.waits
    have q3 := hq.pages
    have q4 := hq.disk.room
    have q5 := hq.disk.left
    have q6 := hq.turn
    have hI := nM (Ee s (by omega) (by omega) (by omega) (by omega) (by omega))
    have hS := Bg s (by omega) (by omega) (by omega) (by omega) (by omega)
    have hb := Kr (s := s) (by omega) (by omega)
    have hcode : ¬ (fM (ag s) s).2 = 1 → ag s = true := fun h => by
      cases hk : ag s with
      | true => rfl
      | false => rw [hk] at h; exact absurd rfl h
    have hsame : ag s = true → (fM (ag s) s).1.pages = s.pages := Df
    have hlaw : ag s = true → (fM (ag s) s).2 = 0 → _ := qF
    obtain ⟨⟨x, n⟩, hR⟩ : ∃ R, R = fM (ag s) s := ⟨_, rfl⟩
    rw [← hR] at hI hS hb hcode hsame hlaw
    dsimp only at hI hS hb hcode hsame hlaw
    have hJ := iR x x (by omega) (by omega) (by omega) (by omega) (by omega) (by omega)
    rw [decide_eq_true rfl] at hJ
    by_cases hn : n = 0
    · subst hn
      obtain ⟨l1, l2, l3, l4, l5, l6, l7, l8⟩ := hlaw (hcode (by decide)) rfl
      have hO := iK x (by omega) (by omega) (by omega)
      rw [iI, l1] at hO
      have hT := dW x.pages s.pages (by omega) (by omega)
      rw [decide_eq_true l2] at hT
      have hdk : dkOk x.disk = true := by unfold ag at l1; exact (of_decide_eq_true l1).1
      have hRd : ∀ i : Nat, i < 20 → Ok Tryz.prog 40 [vDk x.disk, vI (2 + (i : Int))] (vS (s.pages.getD i ByteArray.empty)) [] := fun i hi => by
        have h1 := DiskRead_ok x.disk (2 + i) hdk l6 (by omega)
        have h2 := l8 i hi
        unfold cellAt at h2
        rw [h2, show ((2 + i : Nat) : Int) = 2 + (i : Int) by omega] at h1
        exact h1
      have w1 : IntKind.i64.wrap (s.turn + 1) = s.turn + 1 := af (by omega) (by omega)
      have e1 : decide (x.turn = s.turn + 1) = true := decide_eq_true l3
      have e2 : decide (x.next = 0) = true := decide_eq_true l4
      have e3 : decide (x.tries = 0) = true := decide_eq_true l5
      refine stO Tryz.func7 [.tmp 2] 98 rfl rfl rfl ?_
      repeat' first | refine sS ?_ | ((with_reducible show aC ..); first | refine cF rfl rfl rfl rfl hJ ?_ | refine cR rfl rfl rfl rfl hD ?_ | refine cR rfl rfl rfl rfl hI ?_ | refine cR rfl rfl rfl rfl hS ?_) | refine sO (fun K' hK' => ?_) | (refine sE hK' ?_; clear hK') | (refine sD (fun hc => ?_) (fun hc => ?_) <;> try exact sZ hc) | (simp only [go_sem, Nat.reduceAdd, Nat.reduceMul, Nat.reduceEqDiff, Nat.reduceLT, Nat.reduceLeDiff, decide_true, Bool.not_true]; (all_goals fail_if_success show False)) | fail
      refine W.loop (fun i : Nat => ⟨[.any, .any, .any, .ptr 0 0, .ptr 1 0, .any, .any, .any, vI i, .any, .any, .any, .any, .any, .any, .any, .any, .any, .any, .any, .any, .any, .any, .any, .any, .any, .any, .any, .any, .any, .any, .any, .any, .any, .any, .any, .any, .any, .any, .any, .any, .any, .any, .any, .any, .any, .any, .any, .any, .any, .any, .any, .any, .any, .any, .any, .any, .any, .any, .any, .any, .any, .any, .any, .any, .any, .any, .any, .any, .any, .any, .any, .any, .any, .any, .any, .any, .any, .any, .any, .any, .any, .any, .any, .any, .any, .any, .any, .any, .any, .any, .any, .any, .any, .any, .any, .any, .any], aZ [(0, 35, [.val s.disk.cells.length (s.disk.cells.map vS), .val s.disk.waits.length (s.disk.waits.flatMap cWt), vI s.disk.room, vI s.disk.left, vI s.turn, vI s.tries, vI s.next, .val s.pages.length (s.pages.map vS)]), (1, 35, [.val x.disk.cells.length (x.disk.cells.map vS), .val x.disk.waits.length (x.disk.waits.flatMap cWt), vI x.disk.room, vI x.disk.left, vI x.turn, vI x.tries, vI x.next, .val x.pages.length (x.pages.map vS)])]⟩) (fun i => i ≤ 20) (fun i => 20 - i) 0 ?wk0 (Nat.zero_le _) (fun i hi => ?_)
      case wk0 => exact kp [⟨65568, 0, 35, [.val s.disk.cells.length (s.disk.cells.map vS), .val s.disk.waits.length (s.disk.waits.flatMap cWt), vI s.disk.room, vI s.disk.left, vI s.turn, vI s.tries, vI s.next, .val s.pages.length (s.pages.map vS)]⟩, ⟨82000, 1, 35, [.val x.disk.cells.length (x.disk.cells.map vS), .val x.disk.waits.length (x.disk.waits.flatMap cWt), vI x.disk.room, vI x.disk.left, vI x.turn, vI x.tries, vI x.next, .val x.pages.length (x.pages.map vS)]⟩]
      by_cases h20 : i < 20
      · have w2 : IntKind.i64.wrap (2 + (i : Int)) = 2 + (i : Int) := af (by omega) (by omega)
        have hRi := hRd i h20
        repeat' first | refine sS ?_ | refine sN ?_ ?_ | ((with_reducible show uC ..); refine uF rfl rfl rfl rfl hRi ?_) | refine sO (fun K' hK' => ?_) | refine yA (fun K' hA' => ?_) | ((with_reducible show W _ _ (.region 11 _ _) _ _); refine sV 11 ?_) | (refine sE hK' ?_; clear hK') | (refine sE hA' ?_; clear hA') | (refine sD (fun hc => ?_) (fun hc => ?_) <;> try exact sZ hc) | refine sU ?_ ?_ | exact sX | (simp only [go_sem, Nat.reduceAdd, Nat.reduceEqDiff, Nat.reduceLT, Nat.reduceLeDiff, w2]; (all_goals fail_if_success show False)) | fail
        refine Rnd.normal (i + 1) (by omega) (by omega) ?_
        rw [af (x := (i : Int) + 1) (by omega) (by omega)]
        exact kp [⟨0, 0, 35, [.val s.disk.cells.length (s.disk.cells.map vS), .val s.disk.waits.length (s.disk.waits.flatMap cWt), vI s.disk.room, vI s.disk.left, vI s.turn, vI s.tries, vI s.next, .val s.pages.length (s.pages.map vS)]⟩, ⟨1, 1, 35, [.val x.disk.cells.length (x.disk.cells.map vS), .val x.disk.waits.length (x.disk.waits.flatMap cWt), vI x.disk.room, vI x.disk.left, vI x.turn, vI x.tries, vI x.next, .val x.pages.length (x.pages.map vS)]⟩]
      · obtain rfl : i = 20 := by omega
        repeat' first | refine sS ?_ | ((with_reducible show aC ..); first | refine cF rfl rfl rfl rfl hO ?_ | refine cF rfl rfl rfl rfl hT ?_) | refine sO (fun K' hK' => ?_) | (refine sE hK' ?_; clear hK') | (refine sD (fun hc => ?_) (fun hc => ?_) <;> try exact sZ hc) | ((with_reducible first | refine En.ret ?_ | refine En.normal ?_); simp only [go_sem]) | (simp only [go_sem, Nat.reduceAdd, Nat.reduceEqDiff, Nat.reduceLT, Nat.reduceLeDiff, w1, e1, e2, e3]; (all_goals fail_if_success show False)) | fail
        all_goals exact Out.flat' rfl
    · have en : decide (n = 0) = false := decide_eq_false hn
      by_cases h1 : n = 1
      · have e1 : decide (n = 1) = true := decide_eq_true h1
        refine stO Tryz.func7 [.tmp 2] 98 rfl rfl rfl ?_
        repeat' first | refine sS ?_ | ((with_reducible show aC ..); first | refine cF rfl rfl rfl rfl hJ ?_ | refine cR rfl rfl rfl rfl hD ?_ | refine cR rfl rfl rfl rfl hI ?_ | refine cR rfl rfl rfl rfl hS ?_) | refine sO (fun K' hK' => ?_) | refine sY ?_ | (refine sE hK' ?_; clear hK') | (refine sD (fun hc => ?_) (fun hc => ?_) <;> try exact sZ hc) | ((with_reducible first | refine En.ret ?_ | refine En.normal ?_); simp only [go_sem, Nat.reduceAdd, Nat.reduceMul]) | (simp only [go_sem, Nat.reduceAdd, Nat.reduceMul, Nat.reduceEqDiff, Nat.reduceLT, Nat.reduceLeDiff, en, e1, decide_true, Bool.not_true, Bool.not_false]; (all_goals fail_if_success show False)) | fail
        all_goals exact Out.flat' rfl
      · have e1 : decide (n = 1) = false := decide_eq_false h1
        have hp := hsame (hcode h1)
        have hT := dW x.pages s.pages (by omega) (by omega)
        rw [decide_eq_true hp] at hT
        refine stO Tryz.func7 [.tmp 2] 98 rfl rfl rfl ?_
        repeat' first | refine sS ?_ | ((with_reducible show aC ..); first | refine cF rfl rfl rfl rfl hJ ?_ | refine cF rfl rfl rfl rfl hT ?_ | refine cR rfl rfl rfl rfl hD ?_ | refine cR rfl rfl rfl rfl hI ?_ | refine cR rfl rfl rfl rfl hS ?_) | refine sO (fun K' hK' => ?_) | (refine sE hK' ?_; clear hK') | (refine sD (fun hc => ?_) (fun hc => ?_) <;> try exact sZ hc) | ((with_reducible first | refine En.ret ?_ | refine En.normal ?_); simp only [go_sem, Nat.reduceAdd, Nat.reduceMul]) | (simp only [go_sem, Nat.reduceAdd, Nat.reduceMul, Nat.reduceEqDiff, Nat.reduceLT, Nat.reduceLeDiff, en, e1, decide_true, Bool.not_true, Bool.not_false]; (all_goals fail_if_success show False)) | fail
        all_goals exact Out.flat' rfl
  · refine stO Tryz.func7 [.tmp 2] 98 rfl rfl rfl ?_
    repeat' first | refine sS ?_ | refine sO (fun K' hK' => ?_) | (refine sE hK' ?_; clear hK') | (refine sD (fun hc => ?_) (fun hc => ?_) <;> try exact sZ hc) | ((with_reducible first | refine En.ret ?_ | refine En.normal ?_); simp only [go_sem]) | (simp only [go_sem]; (all_goals fail_if_success show False)) | fail
    all_goals exact Out.flat' rfl
end Go.Proofs.YtknciobaifdafaaGreatDoor.T
