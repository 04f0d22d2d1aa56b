/- Walks of the store's functions, part 30: lists of pages tested. -/
import Derived.Test.YtknciobaifdafaaGreatDoorQEZ
import Derived.Test.YtknciobaifdafaaGreatDoorQD
import Derived.Test.YtknciobaifdafaaGreatDoorQS0
import Derived.Test.YtknciobaifdafaaGreatDoorQY
import Derived.Test.YtknciobaifdafaaGreatDoorQT
set_option linter.unusedVariables false
set_option maxRecDepth 100000
set_option maxHeartbeats 4000000
set_option linter.unusedSimpArgs false
namespace Go.Proofs.YtknciobaifdafaaGreatDoor.T
open Go Go.Pv Go.Proofs.YtknciobaifdafaaGreatDoor.EF
theorem uJ {l : List Wt} {k : Nat} (hk : k < l.length) (h : lM l k = true) : listOk l = false := by
  unfold listOk
  rw [kJ hk h]
  rfl
theorem uK {l : List Wt} : lM l 0 = decide (¬ (0 ≤ (l.getD 0 wt0).cell ∧ (l.getD 0 wt0).cell ≤ 19) ∨ 1100 < (l.getD 0 wt0).text.size) := by
  unfold lM
  rw [Bool.eq_iff_iff]
  simp
theorem uN {l : List Wt} {j : Nat} : lM l (j + 1) = decide (¬ (0 ≤ (l.getD (j + 1) wt0).cell ∧ (l.getD (j + 1) wt0).cell ≤ 19) ∨ 1100 < (l.getD (j + 1) wt0).text.size ∨ (l.getD (j + 1) wt0).cell ≤ (l.getD j wt0).cell) := by
  unfold lM
  rw [Bool.eq_iff_iff]
  simp [or_assoc]
theorem Ah {l : List Wt} {i : Nat} (h : dL (lM l) i = false) (h2 : lM l i = false) : dL (lM l) (i + 1) = false := by
  unfold dL
  rw [h, h2]
  rfl
theorem Ai {l : List Wt} (h : dL (lM l) l.length = false) : listOk l = decide (1 ≤ (l.length : Int) ∧ (l.length : Int) ≤ 20) := by
  unfold listOk
  rw [h, Bool.not_false, Bool.true_and]
  exact decide_eq_decide.2 (by omega)
theorem GG (l : List Wt) (hl : l.length ≤ 1000000000) : Ok Tryz.prog 49 [vWts l] (vB (listOk l)) [] := by
  refine stO Tryz.func49 [.tmp 2] 47 rfl rfl rfl ?_
  repeat' first | refine sS ?_ | refine sO (fun K' hK' => ?_) | (refine sE hK' ?_; clear hK') | (simp only [go_sem]; (all_goals fail_if_success show False)) | fail
  refine W.loop (fun i : Nat => ⟨[vWts l, .any, .any, vI i, .any, .any, .any, .any, .any, .any, .any, .any, .any, .any, .any, .any, .any, .any, .any, .any, .any, .any, .any, .any, .any, .any, .any, .any, .any, .any, .any, .any, .any, .any, .any, .any, .any, .any, .any, .any, .any, .any, .any, .any, .any, .any, .any], bM⟩) (fun i => i ≤ l.length ∧ dL (lM l) i = false) (fun i => l.length - i) 0 ?wk0 ⟨Nat.zero_le _, rfl⟩ (fun i hi => ?_)
  case wk0 => exact kp []
  obtain ⟨hi, hall⟩ := hi
  by_cases hil : i < l.length
  · have hd := dG hil
    rcases i with _ | j
    · repeat' first | refine sS ?_ | ((with_reducible show uC ..); refine uF rfl rfl rfl rfl (pz _ _ _) ?_) | refine sO (fun K' hK' => ?_) | refine sY ?_ | refine yA (fun K' hA' => ?_) | (refine sJ (fun hg => ?_) (fun hg => ?_) <;> try exact sZ hg) | ((with_reducible show W _ _ (.region 4 _ _) _ _); refine sV 34 ?_) | (refine sE hK' ?_; clear hK') | (refine sE hA' ?_; clear hA') | (refine sD (fun hc => ?_) (fun hc => ?_) <;> try exact sZ hc) | refine sU ?_ ?_ | exact sX | ((with_reducible first | refine En.ret ?_ | refine En.normal ?_); simp only [go_sem]) | (simp only [go_sem, hd]; (all_goals fail_if_success show False)) | fail
      all_goals first
        | exact Out.flat' (by rw [uJ hil (by rw [uK]; exact decide_eq_true (by omega))])
        | (refine Rnd.normal (0 + 1) ⟨by omega, Ah hall (by rw [uK]; exact decide_eq_false (by omega))⟩ (by omega) ?_
           rw [af (by omega) (by omega)]
           exact kp [])
    · have hd2 := dG (l := l) (k := j) (by omega)
      have hj : IntKind.i64.wrap (((j + 1 : Nat) : Int) - 1) = (j : Int) := by rw [af (by omega) (by omega)]; omega
      repeat' first | refine sS ?_ | ((with_reducible show uC ..); refine uF rfl rfl rfl rfl (pz _ _ _) ?_) | refine sO (fun K' hK' => ?_) | refine sY ?_ | refine yA (fun K' hA' => ?_) | (refine sJ (fun hg => ?_) (fun hg => ?_) <;> try exact sZ hg) | ((with_reducible show W _ _ (.region 4 _ _) _ _); refine sV 34 ?_) | (refine sE hK' ?_; clear hK') | (refine sE hA' ?_; clear hA') | (refine sD (fun hc => ?_) (fun hc => ?_) <;> try exact sZ hc) | refine sU ?_ ?_ | exact sX | ((with_reducible first | refine En.ret ?_ | refine En.normal ?_); simp only [go_sem]) | (simp only [go_sem, hd, hd2, hj]; (all_goals fail_if_success show False)) | fail
      all_goals first
        | exact Out.flat' (by rw [uJ hil (by rw [uN]; exact decide_eq_true (by omega))])
        | (refine Rnd.normal (j + 1 + 1) ⟨by omega, Ah hall (by rw [uN]; exact decide_eq_false (by omega))⟩ (by omega) ?_
           rw [af (by omega) (by omega)]
           exact kp [])
  · obtain rfl : i = l.length := by omega
    repeat' first | refine sS ?_ | ((with_reducible show aC ..); refine cF rfl rfl rfl rfl (pz _ _ _) ?_) | refine sO (fun K' hK' => ?_) | (refine sE hK' ?_; clear hK') | (refine sD (fun hc => ?_) (fun hc => ?_) <;> try exact sZ hc) | ((with_reducible first | refine En.ret ?_ | refine En.normal ?_); simp only [go_sem]) | (simp only [go_sem]; (all_goals fail_if_success show False)) | fail
    exact Out.flat' (by rw [Ai hall])
def mO (l : List Wt) (i : Nat) : Int := if i = 0 then -1 else (l.getD (i - 1) wt0).cell
theorem yg {l : List Wt} {i : Nat} : mO l (i + 1) = (l.getD i wt0).cell := by unfold mO; rw [if_neg (by omega)]; rfl
theorem IB {l : List Wt} {i : Nat} (h : -1 ≤ mO l i) : lM l i = decide (¬ (mO l i + 1 ≤ (l.getD i wt0).cell ∧ (l.getD i wt0).cell ≤ 19) ∨ 1100 < (l.getD i wt0).text.size) := by
  rcases i with _ | j
  · rw [uK]; rfl
  · rw [uN]
    rw [yg] at h ⊢
    exact decide_eq_decide.2 (by omega)
theorem mP (l : List Wt) (hl : l.length ≤ 1000000000) : Ok Tryz.prog 98 [vWts l] (vB (listOk l)) [] := by
  refine stO Tryz.func98 [.tmp 2] 30 rfl rfl rfl ?_
  repeat' first | refine sS ?_ | refine sO (fun K' hK' => ?_) | (refine sE hK' ?_; clear hK') | (simp only [go_sem]; (all_goals fail_if_success show False)) | fail
  refine W.loop (fun i : Nat => ⟨[vWts l, .any, .any, vI (mO l i), .any, .any, vWts l, vI l.length, vI i, .any, .any, .any, .any, .any, .any, .any, .any, .any, .any, .any, .any, .any, .any, .any, .any, .any, .any, .any, .any, .any], bM⟩) (fun i => i ≤ l.length ∧ dL (lM l) i = false ∧ -1 ≤ mO l i ∧ mO l i ≤ 19) (fun i => l.length - i) 0 ?wk0 ⟨Nat.zero_le _, rfl, Int.le_refl (-1), show (-1 : Int) ≤ 19 by decide⟩ (fun i hi => ?_)
  case wk0 => rw [show mO l 0 = -1 from rfl]; exact kp []
  obtain ⟨hi, hall, hlo, hhi⟩ := hi
  by_cases hil : i < l.length
  · have hd := dG hil
    have hb := IB hlo
    have hw : IntKind.i64.wrap (mO l i + 1) = mO l i + 1 := af (by omega) (by omega)
    have hn : mO l (i + 1) = (l.getD i wt0).cell := yg
    repeat' first | refine sS ?_ | ((with_reducible show aC ..); refine cF rfl rfl rfl rfl (Cm _ _ _) ?_) | refine sO (fun K' hK' => ?_) | refine sY ?_ | (refine sI (fun hg => ?_) (fun hg K' hK' => ?_) <;> try exact sZ hg) | (refine sE hK' ?_; clear hK') | (refine sD (fun hc => ?_) (fun hc => ?_) <;> try exact sZ hc) | refine sU ?_ ?_ | exact sX | ((with_reducible first | refine En.ret ?_ | refine En.normal ?_); simp only [go_sem]) | (simp only [go_sem, Nat.reduceAdd, Nat.reduceMul, Nat.reduceLT, Nat.reduceLeDiff, hd, hw, List.take_succ_cons, List.take_zero]; (all_goals fail_if_success show False)) | fail
    all_goals first
      | exact Out.flat' (by rw [uJ hil (by rw [hb]; exact decide_eq_true (by omega))])
      | (refine Rnd.normal (i + 1) ⟨by omega, Ah hall (by rw [hb]; exact decide_eq_false (by omega)), by rw [hn]; omega, by rw [hn]; omega⟩ (by omega) ?_
         rw [af (by omega) (by omega), hn]
         exact kp [])
  · obtain rfl : i = l.length := by omega
    repeat' first | refine sS ?_ | ((with_reducible show aC ..); refine cF rfl rfl rfl rfl (Cm _ _ _) ?_) | refine sO (fun K' hK' => ?_) | (refine sE hK' ?_; clear hK') | (refine sD (fun hc => ?_) (fun hc => ?_) <;> try exact sZ hc) | ((with_reducible first | refine En.ret ?_ | refine En.normal ?_); simp only [go_sem]) | (simp only [go_sem]; (all_goals fail_if_success show False)) | fail
    exact Out.flat' (by rw [Ai hall])
end Go.Proofs.YtknciobaifdafaaGreatDoor.T
set_option linter.unusedVariables false
set_option maxRecDepth 100000
set_option maxHeartbeats 4000000
set_option linter.unusedSimpArgs false
namespace Go.Proofs.YtknciobaifdafaaGreatDoor.T
open Go Go.Pv Go.Proofs.YtknciobaifdafaaGreatDoor.EF
theorem yh (s : Stor) (l : List Wt) (hb : StB s) (hn : 0 ≤ s.next ∧ s.next + l.length ≤ 20) (hl : listOk l = true) : Ok Tryz.prog 96 [aN s, vWts l] (.tup [aN (ak s l).1, vI (ak s l).2]) [] := by
  have hd := hb.disk
  have hp := hb.pages
  have ht := hb.turn
  have hr := hb.tries
  have hlen := bW hl
  have h1 : s.disk.cells.length ≤ 2000000 := by have := hd.cells; omega
  have h2 : s.disk.waits.length ≤ 2000000 := by have := hd.waits; omega
  have hC := l7 s h1 h2 (by omega)
  have hCd := jh s.disk h1 h2
  have hwt : IntKind.i64.wrap (s.tries + 1) = s.tries + 1 := af (by omega) (by omega)
  have hwn : IntKind.i64.wrap (s.next + (l.length : Int)) = s.next + l.length := af (by omega) (by omega)
  have hwl : IntKind.i64.wrap ((l.length : Int) - 1) = l.length - 1 := af (by omega) (by omega)
  have hP := F8 s.pages l hp (fun k hk => by have := fE hl hk; omega) (by omega)
  refine stO Tryz.func96 [.cell 4 35, .tmp 5] 80 rfl rfl rfl ?_
  repeat' first | refine sS ?_ | ((with_reducible show aC ..); refine cR rfl rfl rfl rfl hCd ?_) | refine sO (fun K' hK' => ?_) | (refine sE hK' ?_; clear hK') | (simp only [go_sem, Nat.reduceAdd, Nat.reduceMul, Nat.reduceEqDiff, Nat.reduceLT, Nat.reduceLeDiff]; (all_goals fail_if_success show False)) | fail
  refine W.loop (fun x : Nat × Dk => ⟨[.any, vWts l, .ptr 0 0, .any, .ptr 1 0, .any, .ptr 2 0, vI x.1, .any, .any, .any, .any, .any, .any, .any, .any, .any, .any, .any, .any, .any, .any, .any, .any, .any, .any, .any, .any, .any, .any, .any, .any, .any, .any, .any, .any, .any, .any, .any, .any, .any, .any, .any, .any, .any, .any, .any, .any, .any, .any, .any, .any, .any, .any, .any, .any, .any, .any, .any, .any, .any, .any, .any, .any, .any, .any, .any, .any, .any, .any, .any, .any, .any, .any, .any, .any, .any, .any, .any, .any], aZ [(0, 35, [.val s.disk.cells.length (s.disk.cells.map vS), .val s.disk.waits.length (s.disk.waits.flatMap cWt), vI s.disk.room, vI s.disk.left, vI s.turn, vI s.tries, vI s.next, .val s.pages.length (s.pages.map vS)]), (1, 35, [.b (.slice none 0 0), .b (.slice none 0 0), vI 0, vI 0, vI 0, vI 0, vI 0, .b (.slice none 0 0)]), (2, 33, [.val x.2.cells.length (x.2.cells.map vS), .val x.2.waits.length (x.2.waits.flatMap cWt), vI x.2.room, vI x.2.left])]⟩)
    (fun x => x.1 ≤ l.length ∧ DkB x.2 ∧ aF s l l.length 0 s.disk = aF s l (l.length - x.1) x.1 x.2) (fun x => l.length - x.1) (0, s.disk) ?wk0 ⟨Nat.zero_le _, hd, rfl⟩ (fun x hx => ?_)
  case wk0 => exact kp [⟨16384, 0, 35, [.val s.disk.cells.length (s.disk.cells.map vS), .val s.disk.waits.length (s.disk.waits.flatMap cWt), vI s.disk.room, vI s.disk.left, vI s.turn, vI s.tries, vI s.next, .val s.pages.length (s.pages.map vS)]⟩, ⟨16400, 1, 35, [.b (.slice none 0 0), .b (.slice none 0 0), vI 0, vI 0, vI 0, vI 0, vI 0, .b (.slice none 0 0)]⟩, ⟨32816, 2, 33, [.val s.disk.cells.length (s.disk.cells.map vS), .val s.disk.waits.length (s.disk.waits.flatMap cWt), vI s.disk.room, vI s.disk.left]⟩]
  obtain ⟨i, e⟩ := x
  obtain ⟨hi, he, hrest⟩ := hx
  dsimp only at hi he hrest ⊢
  by_cases hil : i < l.length
  · have hdr := dG hil
    have hat := fE hl hil
    have hwi : IntKind.i64.wrap (s.next + (i : Int)) = s.next + i := af (by omega) (by omega)
    have hk : aF s l l.length 0 s.disk = aF s l ((l.length - (i + 1)) + 1) i e := by rw [hrest, show l.length - i = (l.length - (i + 1)) + 1 by omega]
    have hFr : Ok Tryz.prog 141 [vI s.turn, vI (s.tries + 1), vI (s.next + i), vB (decide ((i : Int) = l.length - 1)), .agg [vI (l.getD i wt0).cell, vS (l.getD i wt0).text]] (vS (di s.turn (s.tries + 1) (s.next + i) (l.getD i wt0).cell (decide (i + 1 = l.length)) (l.getD i wt0).text)) [] := by
      rw [show decide ((i : Int) = l.length - 1) = decide (i + 1 = l.length) from decide_eq_decide.2 (by omega)]
      exact zH s.turn (s.tries + 1) (s.next + i) (decide (i + 1 = l.length)) (l.getD i wt0) (by omega) (by omega) (by omega) (by omega) (by omega)
    obtain ⟨F, hF⟩ : ∃ F, F = di s.turn (s.tries + 1) (s.next + i) (l.getD i wt0).cell (decide (i + 1 = l.length)) (l.getD i wt0).text := ⟨_, rfl⟩
    rw [← hF] at hFr
    obtain ⟨W1, hW1⟩ : ∃ W1, W1 = aO e (22 + (s.next + i)) F := ⟨_, rfl⟩
    have hB1 : DkB W1.1 := hW1 ▸ fF he _ _
    have hW := iL e (22 + (s.next + i)) F he
    rw [← hW1] at hW
    have hRf := pG s e 1 he (by omega) (by omega) h1 h2 (by omega)
    repeat' first | refine yQ ?_ | refine sP ?_ | ((with_reducible show W _ _ (.region 6 _ _) _ _); refine dA 26 23 115056 ?_) | refine sS ?_ | ((with_reducible show uC ..); first | refine uF rfl rfl rfl rfl (mJ _ (by omega)) ?_ | refine uF rfl rfl rfl rfl hFr ?_) | ((with_reducible show aC ..); refine cR rfl rfl rfl rfl hRf ?_) | ((with_reducible show uC ..); refine uR rfl rfl rfl rfl hW ?_) | refine sO (fun K' hK' => ?_) | refine yA (fun K' hA' => ?_) | (refine sE hK' ?_; clear hK') | (refine sE hA' ?_; clear hA') | (refine sD (fun hc => ?_) (fun hc => ?_) <;> try exact sZ hc) | refine sU ?_ ?_ | exact sX | ((with_reducible first | refine En.ret ?_ | refine En.normal ?_); simp only [go_sem, Nat.reduceAdd, Nat.reduceMul, Nat.reduceEqDiff, Nat.reduceLT, Nat.reduceLeDiff, List.take_succ_cons, List.take_zero]) | (simp only [go_sem, Nat.reduceAdd, Nat.reduceMul, Nat.reduceEqDiff, Nat.reduceLT, Nat.reduceLeDiff, hdr, hwi, hwl, hwt, List.take_succ_cons, List.take_zero]; (all_goals fail_if_success show False)) | fail
    · rw [pg (show aF s l l.length 0 s.disk = (e, false) by rw [hk, o9 (by rw [← hF, ← hW1]; exact hc)])]
      generalize bz s e 1 = Z
      exact kp []
    · refine Rnd.normal (i + 1, W1.1) ⟨by dsimp only; omega, hB1, ?_⟩ (by dsimp only; omega) ?_
      · dsimp only
        rw [hk, lT (by rw [← hF, ← hW1]; exact hc), ← hF, ← hW1]
      · rw [af (x := (i : Int) + 1) (by omega) (by omega)]
        exact kp [⟨0, 0, 35, [.val s.disk.cells.length (s.disk.cells.map vS), .val s.disk.waits.length (s.disk.waits.flatMap cWt), vI s.disk.room, vI s.disk.left, vI s.turn, vI s.tries, vI s.next, .val s.pages.length (s.pages.map vS)]⟩, ⟨1, 1, 35, [.b (.slice none 0 0), .b (.slice none 0 0), vI 0, vI 0, vI 0, vI 0, vI 0, .b (.slice none 0 0)]⟩, ⟨2, 2, 33, [.val W1.1.cells.length (W1.1.cells.map vS), .val W1.1.waits.length (W1.1.waits.flatMap cWt), vI W1.1.room, vI W1.1.left]⟩]
  · obtain rfl : i = l.length := by omega
    have hk : aF s l l.length 0 s.disk = (e, true) := by rw [hrest, Nat.sub_self]; rfl
    have hSy := l9 e he
    have hE := Gl s ⟨s.disk, s.turn, s.tries + 1, s.next + l.length, aj s.pages l⟩ (aV e) h1 h2 (by omega)
    rw [nG hk]
    generalize endS s ⟨s.disk, s.turn, s.tries + 1, s.next + l.length, aj s.pages l⟩ (aV e) = Z at hE ⊢
    generalize aV e = e1 at hSy hE
    generalize aj s.pages l = PG at hP hE
    repeat' first | refine sS ?_ | ((with_reducible show aC ..); first | refine cR rfl rfl rfl rfl hC ?_ | refine cR rfl rfl rfl rfl hP ?_) | ((with_reducible show uC ..); first | refine uR rfl rfl rfl rfl hSy ?_ | refine uR rfl rfl rfl rfl hE ?_) | refine sO (fun K' hK' => ?_) | refine yA (fun K' hA' => ?_) | ((with_reducible show W _ _ (.region 14 _ _) _ _); refine sV 7 ?_) | (refine sE hK' ?_; clear hK') | (refine sE hA' ?_; clear hA') | (refine sD (fun hc => ?_) (fun hc => ?_) <;> try exact sZ hc) | ((with_reducible first | refine En.ret ?_ | refine En.normal ?_); simp only [go_sem, Nat.reduceAdd, Nat.reduceMul, Nat.reduceEqDiff, Nat.reduceLT, Nat.reduceLeDiff]) | (simp only [go_sem, Nat.reduceAdd, Nat.reduceMul, Nat.reduceEqDiff, Nat.reduceLT, Nat.reduceLeDiff, hwt, hwn]; (all_goals fail_if_success show False)) | fail
    exact kp []
end Go.Proofs.YtknciobaifdafaaGreatDoor.T
set_option linter.unusedVariables false
set_option maxRecDepth 100000
set_option maxHeartbeats 4000000
set_option linter.unusedSimpArgs false
namespace Go.Proofs.YtknciobaifdafaaGreatDoor.T
open Go Go.Pv Go.Proofs.YtknciobaifdafaaGreatDoor.EF
theorem GH {s : Stor} {l : List Wt} (h : s.next + l.length ≤ 20 ∧ s.tries < 99) : bQ s l = ak s l := by unfold bQ; rw [if_pos h]
theorem Dh {s : Stor} {l : List Wt} (h : ¬ (s.next + l.length ≤ 20 ∧ s.tries < 99)) (hz : (ah s).2 = 0) : bQ s l = ak (ah s).1 l := by unfold bQ; rw [if_neg h, if_pos hz]
theorem GI {s : Stor} {l : List Wt} (h : ¬ (s.next + l.length ≤ 20 ∧ s.tries < 99)) (hz : ¬ (ah s).2 = 0) : bQ s l = ah s := by unfold bQ; rw [if_neg h, if_neg hz]
theorem IC (s : Stor) (l : List Wt) (hb : StB s) (hn : 0 ≤ s.next ∧ s.next ≤ 20) (hl : listOk l = true) : Ok Tryz.prog 51 [aN s, vWts l] (.tup [aN (bQ s l).1, vI (bQ s l).2]) [] := by
  have hlen := bW hl
  have ht := hb.turn
  have hr := hb.tries
  have hwm : IntKind.i64.wrap (s.next + (l.length : Int)) = s.next + l.length := af (by omega) (by omega)
  by_cases hA : s.next + l.length ≤ 20 ∧ s.tries < 99
  · have hCm := yh s l hb (by omega) hl
    rw [GH hA]
    generalize ak s l = Z at hCm ⊢
    refine stO Tryz.func51 [.cell 4 35, .tmp 5] 38 rfl rfl rfl ?_
    repeat' first | refine sS ?_ | ((with_reducible show aC ..); refine cR rfl rfl rfl rfl hCm ?_) | refine sO (fun K' hK' => ?_) | (refine sI (fun hg => ?_) (fun hg K' hK' => ?_) <;> try exact sZ hg) | (refine sE hK' ?_; clear hK') | (refine sD (fun hc => ?_) (fun hc => ?_) <;> try exact sZ hc) | ((with_reducible first | refine En.ret ?_ | refine En.normal ?_); simp only [go_sem, Nat.reduceAdd, Nat.reduceMul, Nat.reduceEqDiff, Nat.reduceLT, Nat.reduceLeDiff]) | (simp only [go_sem, Nat.reduceAdd, Nat.reduceMul, Nat.reduceEqDiff, Nat.reduceLT, Nat.reduceLeDiff, hwm]; (all_goals fail_if_success show False)) | fail
    exact kp []
  · have hR := kM s hb.disk hb.pages (by omega) (by omega)
    by_cases hz : (ah s).2 = 0
    · rw [Dh hA hz]
      have hf := uw hb hz
      generalize ah s = Z at hR hz hf ⊢
      obtain ⟨X, z⟩ := Z
      dsimp only at hz hf hR ⊢
      subst hz
      have hCm := yh X l hf.1 (by omega) hl
      generalize ak X l = Z at hCm ⊢
      refine stO Tryz.func51 [.cell 4 35, .tmp 5] 38 rfl rfl rfl ?_
      repeat' first | refine sS ?_ | ((with_reducible show aC ..); first | refine cR rfl rfl rfl rfl hR ?_ | refine cR rfl rfl rfl rfl hCm ?_) | refine sO (fun K' hK' => ?_) | refine sY ?_ | (refine sI (fun hg => ?_) (fun hg K' hK' => ?_) <;> try exact sZ hg) | (refine sE hK' ?_; clear hK') | (refine sD (fun hc => ?_) (fun hc => ?_) <;> try exact sZ hc) | ((with_reducible first | refine En.ret ?_ | refine En.normal ?_); simp only [go_sem, Nat.reduceAdd, Nat.reduceMul, Nat.reduceEqDiff, Nat.reduceLT, Nat.reduceLeDiff]) | (simp only [go_sem, Nat.reduceAdd, Nat.reduceMul, Nat.reduceEqDiff, Nat.reduceLT, Nat.reduceLeDiff, hwm]; (all_goals fail_if_success show False)) | fail
      all_goals exact kp []
    · rw [GI hA hz]
      generalize ah s = Z at hR hz ⊢
      refine stO Tryz.func51 [.cell 4 35, .tmp 5] 38 rfl rfl rfl ?_
      repeat' first | refine sS ?_ | ((with_reducible show aC ..); refine cR rfl rfl rfl rfl hR ?_) | refine sO (fun K' hK' => ?_) | refine sY ?_ | (refine sI (fun hg => ?_) (fun hg K' hK' => ?_) <;> try exact sZ hg) | (refine sE hK' ?_; clear hK') | (refine sD (fun hc => ?_) (fun hc => ?_) <;> try exact sZ hc) | ((with_reducible first | refine En.ret ?_ | refine En.normal ?_); simp only [go_sem, Nat.reduceAdd, Nat.reduceMul, Nat.reduceEqDiff, Nat.reduceLT, Nat.reduceLeDiff]) | (simp only [go_sem, Nat.reduceAdd, Nat.reduceMul, Nat.reduceEqDiff, Nat.reduceLT, Nat.reduceLeDiff, hwm]; (all_goals fail_if_success show False)) | fail
      all_goals exact kp []
theorem dV (s : Stor) (l : List Wt) (h1 : s.disk.cells.length ≤ 2000000) (h2 : s.disk.waits.length ≤ 2000000) (h3 : s.pages.length ≤ 2000000) (h4 : l.length ≤ 2000000) (hr : s.disk.room ≤ 9223372036854775807) (hl : s.disk.left ≤ 9223372036854775807) : Ok Tryz.prog 14 [aN s, vWts l] (.tup [aN (aG (ag s) s l).1, vI (aG (ag s) s l).2]) [] := by
  have hO := vY s (by omega) (by omega) h3
  have hL := GG l (by omega)
  have hC := l7 s h1 h2 h3
  have hP : ag s = true → listOk l = true → Ok Tryz.prog 51 [aN s, vWts l] (.tup [aN (bQ s l).1, vI (bQ s l).2]) [] := fun h h' => IC s l (gZ hr hl h) (o8 h) h'
  generalize ag s = b at hO hP ⊢
  generalize hlo : listOk l = c at hL hP
  cases b
  · refine stO Tryz.func14 [.cell 4 35, .tmp 5] 20 rfl rfl rfl ?_
    repeat' first | refine sS ?_ | ((with_reducible show aC ..); refine cF rfl rfl rfl rfl hO ?_) | refine sO (fun K' hK' => ?_) | (refine sE hK' ?_; clear hK') | (refine sD (fun hc => ?_) (fun hc => ?_) <;> try exact sZ hc) | ((with_reducible first | refine En.ret ?_ | refine En.normal ?_); simp only [go_sem, Nat.reduceAdd, Nat.reduceEqDiff, Nat.reduceLT, Nat.reduceLeDiff]) | (simp only [go_sem, Nat.reduceAdd, Nat.reduceMul, Nat.reduceEqDiff, Nat.reduceLT, Nat.reduceLeDiff, Bool.not_false]; (all_goals fail_if_success show False)) | fail
    exact Weak.intro [] (by simp) (by simp) (by simp) rfl (by simp [All2, vw, vwA, vwC, ax, bU, aG]) (fun _ h => h.elim)
  · cases c
    · rw [show aG true s l = (s, 1) by unfold aG; rw [if_pos rfl, hlo]; simp]
      refine stO Tryz.func14 [.cell 4 35, .tmp 5] 20 rfl rfl rfl ?_
      repeat' first | refine sS ?_ | ((with_reducible show aC ..); first | refine cF rfl rfl rfl rfl hO ?_ | refine cF rfl rfl rfl rfl hL ?_ | refine cR rfl rfl rfl rfl hC ?_) | refine sO (fun K' hK' => ?_) | (refine sE hK' ?_; clear hK') | (refine sD (fun hc => ?_) (fun hc => ?_) <;> try exact sZ hc) | ((with_reducible first | refine En.ret ?_ | refine En.normal ?_); simp only [go_sem, Nat.reduceAdd, Nat.reduceMul, Nat.reduceEqDiff, Nat.reduceLT, Nat.reduceLeDiff]) | (simp only [go_sem, Nat.reduceAdd, Nat.reduceMul, Nat.reduceEqDiff, Nat.reduceLT, Nat.reduceLeDiff, Bool.not_true, Bool.not_false]; (all_goals fail_if_success show False)) | fail
      exact kp []
    · replace hP := hP rfl rfl
      rw [show aG true s l = bQ s l by unfold aG; rw [if_pos rfl, if_pos hlo]]
      generalize bQ s l = Z at hP ⊢
      refine stO Tryz.func14 [.cell 4 35, .tmp 5] 20 rfl rfl rfl ?_
      repeat' first | refine sS ?_ | ((with_reducible show aC ..); first | refine cF rfl rfl rfl rfl hO ?_ | refine cF rfl rfl rfl rfl hL ?_ | refine cR rfl rfl rfl rfl hP ?_) | refine sO (fun K' hK' => ?_) | (refine sE hK' ?_; clear hK') | (refine sD (fun hc => ?_) (fun hc => ?_) <;> try exact sZ hc) | ((with_reducible first | refine En.ret ?_ | refine En.normal ?_); simp only [go_sem, Nat.reduceAdd, Nat.reduceMul, Nat.reduceEqDiff, Nat.reduceLT, Nat.reduceLeDiff]) | (simp only [go_sem, Nat.reduceAdd, Nat.reduceMul, Nat.reduceEqDiff, Nat.reduceLT, Nat.reduceLeDiff, Bool.not_true]; (all_goals fail_if_success show False)) | fail
      exact kp []
end Go.Proofs.YtknciobaifdafaaGreatDoor.T
