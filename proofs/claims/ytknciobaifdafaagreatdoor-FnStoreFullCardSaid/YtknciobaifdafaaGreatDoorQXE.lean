/- Walks of the laws: FnStoreFull. -/
import Derived.Test.YtknciobaifdafaaGreatDoorQEZ
import Derived.Test.YtknciobaifdafaaGreatDoorQXC
import Derived.Test.YtknciobaifdafaaGreatDoorQDI
set_option linter.unusedVariables false
set_option maxRecDepth 100000
set_option maxHeartbeats 40000000
set_option linter.unusedSimpArgs false
namespace Go.Proofs.YtknciobaifdafaaGreatDoor.T
open Go Go.Pv Go.Proofs.YtknciobaifdafaaGreatDoor.EF
theorem Ph {f : FuncId} {args : List PV} {s : Stor} (h : Ok Tryz.prog f args (dJ s) (aJ s)) : Ok Tryz.prog f args (aN s) [] := by
  refine h.weak ?_
  simp only [aH]
  exact kp []
theorem yG (c e : List Int) (hc : ∀ k, 0 ≤ c.getD k 0 ∧ c.getD k 0 ≤ 255) (he : ∀ k, 0 ≤ e.getD k 0 ∧ e.getD k 0 ≤ 255) (hlc : c.length ≤ 9223372036854775807) (hle : e.length ≤ 9223372036854775807) : Ok Tryz.prog 11 [.val c.length (c.map vU8), .val e.length (e.map vU8)] (vB true) [] := by
  by_cases hlen : c.length ≤ 1048576 ∧ e.length ≤ 1048576
  · obtain ⟨hl1, hl2⟩ := hlen
    have hC : CodeOk c := ⟨hc, hl1⟩
    have hD := qf c hC
    obtain ⟨hq, hq2⟩ := su hC
    generalize lV c = Y at hD hq hq2
    obtain ⟨⟨⟨sc, sw, sr, sl⟩, st, sy, sn, sp⟩, l⟩ := Y
    dsimp only at hD hq hq2
    have q1 := hq.disk.cells
    have q2 := hq.disk.waits
    have q3 := hq.pages
    have q6 := hq.turn
    dsimp only at q1 q2 q3 q6
    have hrm : 0 ≤ (e.length : Int).tmod 5 ∧ (e.length : Int).tmod 5 ≤ 4 := by rw [Int.tmod_eq_emod_of_nonneg (by omega)]; omega
    obtain ⟨rm, hrme⟩ : ∃ rm, rm = (e.length : Int).tmod 5 := ⟨_, rfl⟩
    rw [← hrme] at hrm
    obtain ⟨s, hs⟩ : ∃ s : Stor, s = ⟨⟨sc, sw, rm, -1⟩, st, sy, sn, sp⟩ := ⟨_, rfl⟩
    have p1 : s.disk.cells.length ≤ 42 := by rw [hs]; exact q1
    have p2 : s.disk.waits.length ≤ 102 := by rw [hs]; exact q2
    have p3 : s.pages.length = 20 := by rw [hs]; exact q3
    have p4 : s.disk.room = rm := by rw [hs]
    have p5 : s.disk.left = -1 := by rw [hs]
    have p6 : s.turn = st := by rw [hs]
    have hsp : s.pages = sp := by rw [hs]
    have hI := nM (iO s l (by omega) (by omega) (by omega) (by omega) (by omega) (by omega))
    have hS := dV s l (by omega) (by omega) (by omega) (by omega) (by omega) (by omega)
    have hb := fH (s := s) (l := l) (by omega) (by omega)
    have hlim := yB (s := s) (l := l) (by omega) (by omega)
    obtain ⟨⟨x, n⟩, hR⟩ : ∃ R, R = aG (ag s) s l := ⟨_, rfl⟩
    rw [← hR] at hI hS hb hlim
    dsimp only at hI hS hb hlim
    have hJ := iR x x (by omega) (by omega) (by omega) (by omega) (by omega) (by omega)
    rw [decide_eq_true rfl] at hJ
    have hv : aN s = .agg [.val sc.length (sc.map vS), .val sw.length (sw.flatMap cWt), vI rm, vI (-1), vI st, vI sy, vI sn, .val sp.length (sp.map vS)] := by rw [hs]
    rw [hv, hrme] at hI hS
    by_cases hn : n = 2
    · subst hn
      obtain ⟨k1, k2, k3, k4, k5, k6⟩ := NU hR.symm
      have e0 : fZ (ag x) x (-1) (-1) = ⟨⟨x.disk.cells, x.disk.waits, -1, -1⟩, x.turn, x.tries, x.next, x.pages⟩ := if_pos ⟨k1, by decide, by decide⟩
      have hSt := Ph (xZ x (-1) (-1) (by omega) (by omega) (by omega))
      rw [iI, e0] at hSt
      have hO := iK x (by omega) (by omega) (by omega)
      rw [iI, k1] at hO
      have hI2 := nM (iO ⟨⟨x.disk.cells, x.disk.waits, -1, -1⟩, x.turn, x.tries, x.next, x.pages⟩ l (by dsimp only; omega) (by dsimp only; omega) (by dsimp only; omega) (by omega) (by dsimp only; omega) (by dsimp only; omega))
      have hb2 := fH (s := ⟨⟨x.disk.cells, x.disk.waits, -1, -1⟩, x.turn, x.tries, x.next, x.pages⟩) (l := l) (by dsimp only; omega) (by dsimp only; omega)
      rw [k5] at hI2 hb2
      generalize (⟨⟨x.disk.cells, x.disk.waits, -1, -1⟩, x.turn, x.tries, x.next, x.pages⟩ : Stor) = z at hSt hI2 hb2 k6
      obtain ⟨⟨y, k⟩, hR2⟩ : ∃ R, R = aG true z l := ⟨_, rfl⟩
      rw [← hR2] at hI2 hb2 k6
      dsimp only at hI2 hb2 k6
      have hT1 := dW x.pages s.pages (by omega) (by omega)
      rw [decide_eq_true k3, hsp] at hT1
      have w1 : IntKind.i64.wrap (st + 1) = st + 1 := af (by omega) (by omega)
      rw [p6] at k4
      rcases k6 with k6 | ⟨k6, k7⟩
      · subst k6
        refine stO Tryz.func11 [.tmp 4] 117 rfl rfl rfl ?_
        repeat' first | refine sS ?_ | ((with_reducible show aC ..); first | refine cF rfl rfl rfl rfl hJ ?_ | refine cF rfl rfl rfl rfl hT1 ?_ | refine cR rfl rfl rfl rfl hD ?_ | refine cR rfl rfl rfl rfl hI ?_ | refine cR rfl rfl rfl rfl hS ?_ | refine cR rfl rfl rfl rfl hSt ?_ | refine cR rfl rfl rfl rfl hI2 ?_) | refine sO (fun K' hK' => ?_) | (refine sI (fun hg => ?_) (fun hg K' hK' => ?_) <;> try exact sZ hg) | (refine sE hK' ?_; clear hK') | (refine sD (fun hc => ?_) (fun hc => ?_) <;> try exact sZ hc) | refine sU ?_ ?_ | exact sX | ((with_reducible first | refine En.ret ?_ | refine En.normal ?_); simp only [go_sem, Nat.reduceAdd, Nat.reduceMul]) | (simp only [go_sem, Nat.reduceAdd, Nat.reduceMul, Nat.reduceEqDiff, Nat.reduceLT, Nat.reduceLeDiff, decide_true, Bool.not_true]; (all_goals fail_if_success show False)) | fail
        all_goals exact Out.flat' rfl
      · subst k6
        have hPt := EC s.pages l (by omega) p3 k2
        have hT2 := dW y.pages y.pages (by omega) (by omega)
        rw [decide_eq_true rfl] at hT2
        rw [← k7, hsp] at hPt
        rcases k4 with k4 | k4
        · have e1 : decide (x.turn = st) = true := decide_eq_true k4
          refine stO Tryz.func11 [.tmp 4] 117 rfl rfl rfl ?_
          repeat' first | refine sS ?_ | ((with_reducible show aC ..); refine cF rfl rfl rfl rfl hJ ?_) | ((with_reducible show uC ..); first | refine uF rfl rfl rfl rfl hO ?_ | refine uF rfl rfl rfl rfl hT1 ?_ | refine uF rfl rfl rfl rfl hT2 ?_) | ((with_reducible show aC ..); first | refine cR rfl rfl rfl rfl hD ?_ | refine cR rfl rfl rfl rfl hI ?_ | refine cR rfl rfl rfl rfl hS ?_ | refine cR rfl rfl rfl rfl hSt ?_ | refine cR rfl rfl rfl rfl hI2 ?_) | ((with_reducible show uC ..); refine uR rfl rfl rfl rfl hPt ?_) | refine sO (fun K' hK' => ?_) | refine sY ?_ | (refine sI (fun hg => ?_) (fun hg K' hK' => ?_) <;> try exact sZ hg) | refine yA (fun K' hA' => ?_) | ((with_reducible show W _ _ (.region 13 _ _) _ _); refine sV 38 ?_) | (refine sE hK' ?_; clear hK') | (refine sE hA' ?_; clear hA') | (refine sD (fun hc => ?_) (fun hc => ?_) <;> try exact sZ hc) | refine sU ?_ ?_ | exact sX | ((with_reducible first | refine En.ret ?_ | refine En.normal ?_); simp only [go_sem, Nat.reduceAdd, Nat.reduceMul]) | (simp only [go_sem, Nat.reduceAdd, Nat.reduceMul, Nat.reduceEqDiff, Nat.reduceLT, Nat.reduceLeDiff, e1, decide_true, Bool.not_true]; (all_goals fail_if_success show False)) | fail
          all_goals exact Out.flat' rfl
        · have e1 : decide (x.turn = st) = false := decide_eq_false (by omega)
          have e2 : decide (x.turn = st + 1) = true := decide_eq_true k4
          refine stO Tryz.func11 [.tmp 4] 117 rfl rfl rfl ?_
          repeat' first | refine sS ?_ | ((with_reducible show aC ..); refine cF rfl rfl rfl rfl hJ ?_) | ((with_reducible show uC ..); first | refine uF rfl rfl rfl rfl hO ?_ | refine uF rfl rfl rfl rfl hT1 ?_ | refine uF rfl rfl rfl rfl hT2 ?_) | ((with_reducible show aC ..); first | refine cR rfl rfl rfl rfl hD ?_ | refine cR rfl rfl rfl rfl hI ?_ | refine cR rfl rfl rfl rfl hS ?_ | refine cR rfl rfl rfl rfl hSt ?_ | refine cR rfl rfl rfl rfl hI2 ?_) | ((with_reducible show uC ..); refine uR rfl rfl rfl rfl hPt ?_) | refine sO (fun K' hK' => ?_) | (refine sI (fun hg => ?_) (fun hg K' hK' => ?_) <;> try exact sZ hg) | refine yA (fun K' hA' => ?_) | ((with_reducible show W _ _ (.region 13 _ _) _ _); refine sV 38 ?_) | (refine sE hK' ?_; clear hK') | (refine sE hA' ?_; clear hA') | (refine sD (fun hc => ?_) (fun hc => ?_) <;> try exact sZ hc) | refine sU ?_ ?_ | exact sX | ((with_reducible first | refine En.ret ?_ | refine En.normal ?_); simp only [go_sem, Nat.reduceAdd, Nat.reduceMul]) | (simp only [go_sem, Nat.reduceAdd, Nat.reduceMul, Nat.reduceEqDiff, Nat.reduceLT, Nat.reduceLeDiff, w1, e1, e2, decide_true, Bool.not_true]; (all_goals fail_if_success show False)) | fail
          all_goals exact Out.flat' rfl
    · have en : decide (n = 2) = false := decide_eq_false hn
      refine stO Tryz.func11 [.tmp 4] 117 rfl rfl rfl ?_
      repeat' first | refine sS ?_ | ((with_reducible show aC ..); first | refine cF rfl rfl rfl rfl hJ ?_ | refine cR rfl rfl rfl rfl hD ?_ | refine cR rfl rfl rfl rfl hI ?_ | refine cR rfl rfl rfl rfl hS ?_) | refine sO (fun K' hK' => ?_) | (refine sI (fun hg => ?_) (fun hg K' hK' => ?_) <;> try exact sZ hg) | (refine sE hK' ?_; clear hK') | (refine sD (fun hc => ?_) (fun hc => ?_) <;> try exact sZ hc) | refine sU ?_ ?_ | exact sX | ((with_reducible first | refine En.ret ?_ | refine En.normal ?_); simp only [go_sem, Nat.reduceAdd, Nat.reduceMul]) | (simp only [go_sem, Nat.reduceAdd, Nat.reduceMul, Nat.reduceEqDiff, Nat.reduceLT, Nat.reduceLeDiff, en, decide_true, Bool.not_true, Bool.not_false]; (all_goals fail_if_success show False)) | fail
      all_goals exact Out.flat' rfl
  · refine stO Tryz.func11 [.tmp 4] 117 rfl rfl rfl ?_
    repeat' first | refine sS ?_ | refine sO (fun K' hK' => ?_) | refine sY ?_ | (refine sI (fun hg => ?_) (fun hg K' hK' => ?_) <;> try exact sZ hg) | (refine sE hK' ?_; clear hK') | (refine sD (fun hc => ?_) (fun hc => ?_) <;> try exact sZ hc) | ((with_reducible first | refine En.ret ?_ | refine En.normal ?_); simp only [go_sem]) | (simp only [go_sem]; (all_goals fail_if_success show False)) | fail
    all_goals exact Out.flat' rfl
end Go.Proofs.YtknciobaifdafaaGreatDoor.T
