/- Walks of the laws: FnStoreTwo. -/
import Derived.Test.YtknciobaifdafaaGreatDoorQEZ
import Derived.Test.YtknciobaifdafaaGreatDoorQXC
set_option linter.unusedVariables false
set_option maxRecDepth 100000
set_option maxHeartbeats 4000000
set_option linter.unusedSimpArgs false
namespace Go.Proofs.YtknciobaifdafaaGreatDoor.T
open Go Go.Pv Go.Proofs.YtknciobaifdafaaGreatDoor.EF
theorem A8 (c e : List Int) (hc : ∀ k, 0 ≤ c.getD k 0 ∧ c.getD k 0 ≤ 255) (he : ∀ k, 0 ≤ e.getD k 0 ∧ e.getD k 0 ≤ 255) (hlc : c.length ≤ 9223372036854775807) (hle : e.length ≤ 9223372036854775807) : Ok Tryz.prog 10 [.val c.length (c.map vU8), .val e.length (e.map vU8)] (vB true) [] := by
  by_cases hlen : c.length ≤ 1048576 ∧ e.length ≤ 1048576
  · obtain ⟨hl1, hl2⟩ := hlen
    have hC : CodeOk c := ⟨hc, hl1⟩
    have hE : CodeOk e := ⟨he, hl2⟩
    have hD := qf c hC
    have hD2 := qf e hE
    obtain ⟨hq, hq2⟩ := su hC
    obtain ⟨hq3, hq4⟩ := su hE
    generalize lV c = Y at hD hq hq2
    generalize lV e = Y2 at hD2 hq3 hq4
    obtain ⟨⟨⟨sc, sw, sr, sl⟩, st, sy, sn, sp⟩, l⟩ := Y
    obtain ⟨s2, l2⟩ := Y2
    dsimp only at hD hD2 hq hq2 hq3 hq4
    have q1 := hq.disk.cells
    have q2 := hq.disk.waits
    have q3 := hq.pages
    dsimp only at q1 q2 q3
    obtain ⟨s, hs⟩ : ∃ s : Stor, s = ⟨⟨sc, sw, -1, -1⟩, st, sy, sn, sp⟩ := ⟨_, rfl⟩
    have p1 : s.disk.cells.length ≤ 42 := by rw [hs]; exact q1
    have p2 : s.disk.waits.length ≤ 102 := by rw [hs]; exact q2
    have p3 : s.pages.length = 20 := by rw [hs]; exact q3
    have p4 : s.disk.room = -1 := by rw [hs]
    have p5 : s.disk.left = -1 := by rw [hs]
    have hI := nM (iO s l (by omega) (by omega) (by omega) (by omega) (by omega) (by omega))
    have hS := dV s l (by omega) (by omega) (by omega) (by omega) (by omega) (by omega)
    have hb := fH (s := s) (l := l) (by omega) (by omega)
    have hlim := yB (s := s) (l := l) (by omega) (by omega)
    obtain ⟨⟨x, n⟩, hR⟩ : ∃ R, R = aG (ag s) s l := ⟨_, rfl⟩
    rw [← hR] at hI hS hb hlim
    dsimp only at hI hS hb hlim
    have hJ := iR x x (by omega) (by omega) (by omega) (by omega) (by omega) (by omega)
    rw [decide_eq_true rfl] at hJ
    have hv : aN s = .agg [.val sc.length (sc.map vS), .val sw.length (sw.flatMap cWt), vI (-1), vI (-1), vI st, vI sy, vI sn, .val sp.length (sp.map vS)] := by rw [hs]
    rw [hv] at hI hS
    by_cases hn : n = 0
    · subst hn
      obtain ⟨k1, k2, k3, k4, k5⟩ := qg hR.symm
      have hI2 := nM (iO x l2 (by omega) (by omega) (by omega) (by omega) hlim.1 hlim.2)
      have hb2 := fH (s := x) (l := l2) hlim.1 hlim.2
      have hnot := A7 (l := l2) k3
      obtain ⟨⟨y, k⟩, hR2⟩ : ∃ R, R = aG (ag x) x l2 := ⟨_, rfl⟩
      rw [← hR2] at hI2 hb2 hnot
      dsimp only at hI2 hb2 hnot
      by_cases hk : k = 0
      · subst hk
        obtain ⟨m1, m2, m3, m4, m5⟩ := qg hR2.symm
        obtain ⟨z, r1, r2, _⟩ := wJ m3
        have hZ := wS (gU y.disk (by omega) (by omega))
        rw [iY, r1] at hZ
        dsimp only at hZ
        have hxp : x.pages.length = 20 := by rw [k4, aQ]; exact p3
        have hPt := EC s.pages l (by omega) p3 k2
        have hPt2 := EC x.pages l2 (by omega) hxp m2
        rw [← k4] at hPt
        rw [← m4] at hPt2
        have hsp : s.pages = sp := by rw [hs]
        rw [hsp] at hPt
        have hT1 := dW z.pages y.pages (by rw [r2]; omega) (by omega)
        rw [decide_eq_true r2] at hT1
        refine stO Tryz.func10 [.tmp 4] 103 rfl rfl rfl ?_
        repeat' first | refine sS ?_ | ((with_reducible show aC ..); refine cF rfl rfl rfl rfl hJ ?_) | ((with_reducible show uC ..); refine uF rfl rfl rfl rfl hT1 ?_) | ((with_reducible show aC ..); first | refine cR rfl rfl rfl rfl hD ?_ | refine cR rfl rfl rfl rfl hD2 ?_ | refine cR rfl rfl rfl rfl hI ?_ | refine cR rfl rfl rfl rfl hS ?_ | refine cR rfl rfl rfl rfl hI2 ?_ | refine cR rfl rfl rfl rfl hZ ?_) | ((with_reducible show uC ..); first | refine uR rfl rfl rfl rfl hPt ?_ | refine uR rfl rfl rfl rfl hPt2 ?_) | refine sO (fun K' hK' => ?_) | (refine sI (fun hg => ?_) (fun hg K' hK' => ?_) <;> try exact sZ hg) | refine yA (fun K' hA' => ?_) | ((with_reducible show W _ _ (.region 15 _ _) _ _); refine sV 13 ?_) | (refine sE hK' ?_; clear hK') | (refine sE hA' ?_; clear hA') | (refine sD (fun hc => ?_) (fun hc => ?_) <;> try exact sZ hc) | ((with_reducible first | refine En.ret ?_ | refine En.normal ?_); simp only [go_sem, Nat.reduceAdd, Nat.reduceMul]) | (simp only [go_sem, Nat.reduceAdd, Nat.reduceMul, Nat.reduceEqDiff, Nat.reduceLT, Nat.reduceLeDiff, decide_true, Bool.not_true]; (all_goals fail_if_success show False)) | fail
        all_goals exact Out.flat' rfl
      · have ek : decide (k = 0) = false := decide_eq_false hk
        have hsame := (hnot hk).1
        have hT1 := dW y.pages x.pages (by omega) (by omega)
        rw [decide_eq_true hsame] at hT1
        refine stO Tryz.func10 [.tmp 4] 103 rfl rfl rfl ?_
        repeat' first | refine sS ?_ | ((with_reducible show aC ..); first | refine cF rfl rfl rfl rfl hJ ?_ | refine cF rfl rfl rfl rfl hT1 ?_ | refine cR rfl rfl rfl rfl hD ?_ | refine cR rfl rfl rfl rfl hD2 ?_ | refine cR rfl rfl rfl rfl hI ?_ | refine cR rfl rfl rfl rfl hS ?_ | refine cR rfl rfl rfl rfl hI2 ?_) | refine sO (fun K' hK' => ?_) | (refine sI (fun hg => ?_) (fun hg K' hK' => ?_) <;> try exact sZ hg) | (refine sE hK' ?_; clear hK') | (refine sD (fun hc => ?_) (fun hc => ?_) <;> try exact sZ hc) | ((with_reducible first | refine En.ret ?_ | refine En.normal ?_); simp only [go_sem, Nat.reduceAdd, Nat.reduceMul]) | (simp only [go_sem, Nat.reduceAdd, Nat.reduceMul, Nat.reduceEqDiff, Nat.reduceLT, Nat.reduceLeDiff, ek, decide_true, Bool.not_true, Bool.not_false]; (all_goals fail_if_success show False)) | fail
        all_goals exact Out.flat' rfl
    · have en : decide (n = 0) = false := decide_eq_false hn
      refine stO Tryz.func10 [.tmp 4] 103 rfl rfl rfl ?_
      repeat' first | refine sS ?_ | ((with_reducible show aC ..); first | refine cF rfl rfl rfl rfl hJ ?_ | refine cR rfl rfl rfl rfl hD ?_ | refine cR rfl rfl rfl rfl hD2 ?_ | refine cR rfl rfl rfl rfl hI ?_ | refine cR rfl rfl rfl rfl hS ?_) | refine sO (fun K' hK' => ?_) | (refine sI (fun hg => ?_) (fun hg K' hK' => ?_) <;> try exact sZ hg) | (refine sE hK' ?_; clear hK') | (refine sD (fun hc => ?_) (fun hc => ?_) <;> try exact sZ hc) | ((with_reducible first | refine En.ret ?_ | refine En.normal ?_); simp only [go_sem, Nat.reduceAdd, Nat.reduceMul]) | (simp only [go_sem, Nat.reduceAdd, Nat.reduceMul, Nat.reduceEqDiff, Nat.reduceLT, Nat.reduceLeDiff, en, decide_true, Bool.not_true, Bool.not_false]; (all_goals fail_if_success show False)) | fail
      all_goals exact Out.flat' rfl
  · refine stO Tryz.func10 [.tmp 4] 103 rfl rfl rfl ?_
    repeat' first | refine sS ?_ | refine sO (fun K' hK' => ?_) | refine sY ?_ | (refine sI (fun hg => ?_) (fun hg K' hK' => ?_) <;> try exact sZ hg) | (refine sE hK' ?_; clear hK') | (refine sD (fun hc => ?_) (fun hc => ?_) <;> try exact sZ hc) | ((with_reducible first | refine En.ret ?_ | refine En.normal ?_); simp only [go_sem]) | (simp only [go_sem]; (all_goals fail_if_success show False)) | fail
    all_goals exact Out.flat' rfl
end Go.Proofs.YtknciobaifdafaaGreatDoor.T
