/- Walks of the laws: FnStoreCommit. -/
import Derived.Test.YtknciobaifdafaaGreatDoorQEZ
import Derived.Test.YtknciobaifdafaaGreatDoorQX9
import Derived.Test.YtknciobaifdafaaGreatDoorQXB
import Derived.Test.YtknciobaifdafaaGreatDoorQGP
import Derived.Test.YtknciobaifdafaaGreatDoorQDH
import Derived.Test.YtknciobaifdafaaGreatDoorQP8
import Derived.Test.YtknciobaifdafaaGreatDoorQC1
set_option linter.unusedVariables false
set_option maxRecDepth 100000
set_option maxHeartbeats 4000000
set_option linter.unusedSimpArgs false
namespace Go.Proofs.YtknciobaifdafaaGreatDoor.T
open Go Go.Pv Go.Proofs.YtknciobaifdafaaGreatDoor.EF
theorem EC (P : List ByteArray) (l : List Wt) (h1 : P.length ≤ 2000000) (hP : P.length = 20) (h : listOk l = true) : Ok Tryz.prog 44 [.val P.length (P.map vS), .val l.length (l.flatMap cWt)] (.val (aj P l).length ((aj P l).map vS)) [] := by
  have hl := bW h
  refine (NQ P l h1 (by omega) fun k hk => ?_).weak ?_
  · have := fE h hk; omega
  · generalize aj P l = X
    simp only [aH]
    exact kp []
theorem yB {s : Stor} {l : List Wt} (hr : s.disk.room ≤ 9223372036854775807) (hl : s.disk.left ≤ 9223372036854775807) : (aG (ag s) s l).1.disk.room ≤ 9223372036854775807 ∧ (aG (ag s) s l).1.disk.left ≤ 9223372036854775807 := by
  unfold aG
  split
  · rename_i h
    have hb := gZ hr hl h
    split
    · have := FU (l := l) hb
      exact ⟨this.1.room.2, this.1.left.2⟩
    · exact ⟨hr, hl⟩
  · exact ⟨by decide, by decide⟩
theorem wU (c : List Int) (hc : ∀ k, 0 ≤ c.getD k 0 ∧ c.getD k 0 ≤ 255) (hl : c.length ≤ 9223372036854775807) : Ok Tryz.prog 9 [.val c.length (c.map vU8)] (vB true) [] := by
  by_cases hlen : c.length ≤ 1048576
  · have hC : CodeOk c := ⟨hc, hlen⟩
    have hD := qf c hC
    obtain ⟨hq, hq2⟩ := su hC
    generalize lV c = Y at hD hq hq2
    obtain ⟨s, l⟩ := Y
    dsimp only at hD hq hq2
    have q1 := hq.disk.cells
    have q2 := hq.disk.waits
    have q3 := hq.pages
    have q4 := hq.disk.room
    have q5 := hq.disk.left
    have q6 := hq.turn
    have hI := nM (iO s l (by omega) (by omega) (by omega) (by omega) (by omega) (by omega))
    have hS := dV s l (by omega) (by omega) (by omega) (by omega) (by omega) (by omega)
    have hb := fH (s := s) (l := l) (by omega) (by omega)
    obtain ⟨⟨x, n⟩, hR⟩ : ∃ R, R = aG (ag s) s l := ⟨_, rfl⟩
    rw [← hR] at hI hS hb
    dsimp only at hI hS hb
    have hJ := iR x x (by omega) (by omega) (by omega) (by omega) (by omega) (by omega)
    rw [decide_eq_true rfl] at hJ
    by_cases hn : n = 0
    · subst hn
      obtain ⟨k1, k2, k3, k4, k5⟩ := qg hR.symm
      obtain ⟨y, r1, r2, _⟩ := wJ k3
      have hY := wS (gU x.disk (by omega) (by omega))
      rw [iY, r1] at hY
      dsimp only at hY
      have hO := iK x (by omega) (by omega) (by omega)
      rw [iI, k3] at hO
      have hT1 := dW y.pages x.pages (by rw [r2]; omega) (by omega)
      rw [decide_eq_true r2] at hT1
      have hPt := EC s.pages l (by omega) q3 k2
      rw [← k4] at hPt
      have hT2 := dW x.pages x.pages (by omega) (by omega)
      rw [decide_eq_true rfl] at hT2
      have w1 : IntKind.i64.wrap (s.turn + 1) = s.turn + 1 := af (by omega) (by omega)
      rcases k5 with k5 | k5
      · have e1 : decide (x.turn = s.turn) = true := decide_eq_true k5
        refine stO Tryz.func9 [.tmp 2] 94 rfl rfl rfl ?_
        repeat' first | refine sS ?_ | ((with_reducible show aC ..); refine cF rfl rfl rfl rfl hJ ?_) | ((with_reducible show uC ..); first | refine uF rfl rfl rfl rfl hO ?_ | refine uF rfl rfl rfl rfl hT1 ?_ | refine uF rfl rfl rfl rfl hT2 ?_) | ((with_reducible show aC ..); first | refine cR rfl rfl rfl rfl hD ?_ | refine cR rfl rfl rfl rfl hI ?_ | refine cR rfl rfl rfl rfl hS ?_ | refine cR rfl rfl rfl rfl hY ?_) | ((with_reducible show uC ..); refine uR rfl rfl rfl rfl hPt ?_) | refine sO (fun K' hK' => ?_) | refine sY ?_ | refine yA (fun K' hA' => ?_) | ((with_reducible show W _ _ (.region 9 _ _) _ _); refine sV 37 ?_) | (refine sE hK' ?_; clear hK') | (refine sE hA' ?_; clear hA') | (refine sD (fun hc => ?_) (fun hc => ?_) <;> try exact sZ hc) | ((with_reducible first | refine En.ret ?_ | refine En.normal ?_); simp only [go_sem, Nat.reduceAdd, Nat.reduceMul]) | (simp only [go_sem, Nat.reduceAdd, Nat.reduceMul, Nat.reduceEqDiff, Nat.reduceLT, Nat.reduceLeDiff, e1, decide_true, Bool.not_true]; (all_goals fail_if_success show False)) | fail
        all_goals exact Out.flat' rfl
      · have e1 : decide (x.turn = s.turn) = false := decide_eq_false (by omega)
        have e2 : decide (x.turn = s.turn + 1) = true := decide_eq_true k5
        refine stO Tryz.func9 [.tmp 2] 94 rfl rfl rfl ?_
        repeat' first | refine sS ?_ | ((with_reducible show aC ..); refine cF rfl rfl rfl rfl hJ ?_) | ((with_reducible show uC ..); first | refine uF rfl rfl rfl rfl hO ?_ | refine uF rfl rfl rfl rfl hT1 ?_ | refine uF rfl rfl rfl rfl hT2 ?_) | ((with_reducible show aC ..); first | refine cR rfl rfl rfl rfl hD ?_ | refine cR rfl rfl rfl rfl hI ?_ | refine cR rfl rfl rfl rfl hS ?_ | refine cR rfl rfl rfl rfl hY ?_) | ((with_reducible show uC ..); refine uR rfl rfl rfl rfl hPt ?_) | refine sO (fun K' hK' => ?_) | refine yA (fun K' hA' => ?_) | ((with_reducible show W _ _ (.region 9 _ _) _ _); refine sV 37 ?_) | (refine sE hK' ?_; clear hK') | (refine sE hA' ?_; clear hA') | (refine sD (fun hc => ?_) (fun hc => ?_) <;> try exact sZ hc) | ((with_reducible first | refine En.ret ?_ | refine En.normal ?_); simp only [go_sem, Nat.reduceAdd, Nat.reduceMul]) | (simp only [go_sem, Nat.reduceAdd, Nat.reduceMul, Nat.reduceEqDiff, Nat.reduceLT, Nat.reduceLeDiff, w1, e1, e2, decide_true, Bool.not_true]; (all_goals fail_if_success show False)) | fail
        all_goals exact Out.flat' rfl
    · have en : decide (n = 0) = false := decide_eq_false hn
      refine stO Tryz.func9 [.tmp 2] 94 rfl rfl rfl ?_
      repeat' first | refine sS ?_ | ((with_reducible show aC ..); first | refine cF rfl rfl rfl rfl hJ ?_ | refine cR rfl rfl rfl rfl hD ?_ | refine cR rfl rfl rfl rfl hI ?_ | refine cR rfl rfl rfl rfl hS ?_) | refine sO (fun K' hK' => ?_) | (refine sE hK' ?_; clear hK') | (refine sD (fun hc => ?_) (fun hc => ?_) <;> try exact sZ hc) | ((with_reducible first | refine En.ret ?_ | refine En.normal ?_); simp only [go_sem, Nat.reduceAdd, Nat.reduceMul]) | (simp only [go_sem, Nat.reduceAdd, Nat.reduceMul, Nat.reduceEqDiff, Nat.reduceLT, Nat.reduceLeDiff, en, decide_true, Bool.not_true, Bool.not_false]; (all_goals fail_if_success show False)) | fail
      all_goals exact Out.flat' rfl
  · refine stO Tryz.func9 [.tmp 2] 94 rfl rfl rfl ?_
    repeat' first | refine sS ?_ | refine sO (fun K' hK' => ?_) | (refine sE hK' ?_; clear hK') | (refine sD (fun hc => ?_) (fun hc => ?_) <;> try exact sZ hc) | ((with_reducible first | refine En.ret ?_ | refine En.normal ?_); simp only [go_sem]) | (simp only [go_sem]; (all_goals fail_if_success show False)) | fail
    all_goals exact Out.flat' rfl
end Go.Proofs.YtknciobaifdafaaGreatDoor.T
