/- Walks of the store's functions, part 20: copies, limits set. -/
import Derived.Test.YtknciobaifdafaaGreatDoorQEZ
import Derived.Test.YtknciobaifdafaaGreatDoorQT
import Derived.Test.YtknciobaifdafaaGreatDoorQU
import Derived.Test.YtknciobaifdafaaGreatDoorQN
import Derived.Test.YtknciobaifdafaaGreatDoorQD
import Derived.Test.YtknciobaifdafaaGreatDoorQS5
set_option linter.unusedVariables false
set_option maxRecDepth 100000
set_option maxHeartbeats 4000000
set_option linter.unusedSimpArgs false
namespace Go.Proofs.YtknciobaifdafaaGreatDoor.T
open Go Go.Pv Go.Proofs.YtknciobaifdafaaGreatDoor.EF
def fZ (b : Bool) (s : Stor) (room left : Int) : Stor := if b = true ∧ -1 ≤ room ∧ -1 ≤ left then ⟨⟨s.disk.cells, s.disk.waits, room, left⟩, s.turn, s.tries, s.next, s.pages⟩ else bU
theorem MP {l : List ByteArray} : (l.map vS).all ownC = true := by rw [List.all_eq_true]; intro x hx; obtain ⟨b, _, rfl⟩ := List.mem_map.1 hx; rfl
theorem OO {l : List Wt} : (l.flatMap cWt).all ownC = true := by
  rw [List.all_eq_true]
  intro x hx
  obtain ⟨b, _, h⟩ := List.mem_flatMap.1 hx
  simp [cWt] at h
  rcases h with rfl | rfl <;> rfl
theorem jh (d : Dk) (h1 : d.cells.length ≤ 2000000) (h2 : d.waits.length ≤ 2000000) : Ok Tryz.prog 95 [vDk d] (vDk d) [] := by
  refine (ig d h1 h2).weak ?_
  exact kp []
theorem l7 (s : Stor) (h1 : s.disk.cells.length ≤ 2000000) (h2 : s.disk.waits.length ≤ 2000000) (h3 : s.pages.length ≤ 2000000) : Ok Tryz.prog 50 [aN s] (aN s) [] := by
  refine stO Tryz.func50 [.cell 2 35] 15 rfl rfl rfl ?_
  repeat' first | refine sS ?_ | ((with_reducible show aC ..); refine cR rfl rfl rfl rfl (jh s.disk h1 h2) ?_) | refine sO (fun K' hK' => ?_) | (refine sE hK' ?_; clear hK') | refine sU ?_ ?_ | exact sX | ((with_reducible first | refine En.ret ?_ | refine En.normal ?_); simp only [go_sem, Nat.reduceAdd, Nat.reduceMul, Nat.reduceEqDiff, Nat.reduceLT, Nat.reduceLeDiff]) | (simp only [go_sem, Nat.reduceAdd, Nat.reduceMul, Nat.reduceEqDiff, Nat.reduceLT, Nat.reduceLeDiff]; (all_goals fail_if_success show False)) | fail
  exact kp []
theorem ku (s : Stor) (room left : Int) (h1 : s.disk.cells.length ≤ 2000000) (h2 : s.disk.waits.length ≤ 2000000) (h3 : s.pages.length ≤ 2000000) : Ok Tryz.prog 26 [aN s, vI room, vI left] (aN (fZ (ag s) s room left)) [] := by
  have hO := vY s (by omega) (by omega) h3
  have hC := l7 s h1 h2 h3
  generalize ag s = b at hO ⊢
  have e0 : fZ false s room left = bU := if_neg (fun h => by cases h.1)
  have e1 : ¬ (-1 ≤ room ∧ -1 ≤ left) → fZ true s room left = bU := fun hn => if_neg (fun h => hn h.2)
  have e2 : -1 ≤ room ∧ -1 ≤ left → fZ true s room left = ⟨⟨s.disk.cells, s.disk.waits, room, left⟩, s.turn, s.tries, s.next, s.pages⟩ := fun h => if_pos ⟨rfl, h⟩
  cases b
  · rw [e0]
    refine stO Tryz.func26 [.cell 6 35] 29 rfl rfl rfl ?_
    repeat' first | refine sS ?_ | ((with_reducible show aC ..); refine cF rfl rfl rfl rfl hO ?_) | refine sO (fun K' hK' => ?_) | refine sY ?_ | (refine sE hK' ?_; clear hK') | (refine sD (fun hc => ?_) (fun hc => ?_) <;> try exact sZ hc) | ((with_reducible first | refine En.ret ?_ | refine En.normal ?_); simp only [go_sem, Nat.reduceAdd, Nat.reduceEqDiff, Nat.reduceLT, Nat.reduceLeDiff, bU]) | (simp only [go_sem, Nat.reduceAdd, Nat.reduceMul, Nat.reduceEqDiff, Nat.reduceLT, Nat.reduceLeDiff, Bool.not_false]; (all_goals fail_if_success show False)) | fail
    exact kp []
  · refine stO Tryz.func26 [.cell 6 35] 29 rfl rfl rfl ?_
    repeat' first | refine sS ?_ | ((with_reducible show aC ..); first | refine cF rfl rfl rfl rfl hO ?_ | refine cR rfl rfl rfl rfl hC ?_) | refine sO (fun K' hK' => ?_) | refine sY ?_ | (refine sI (fun hg => ?_) (fun hg K' hK' => ?_) <;> try exact sZ hg) | (refine sE hK' ?_; clear hK') | (refine sD (fun hc => ?_) (fun hc => ?_) <;> try exact sZ hc) | ((with_reducible first | refine En.ret ?_ | refine En.normal ?_); simp only [go_sem, Nat.reduceAdd, Nat.reduceMul, Nat.reduceEqDiff, Nat.reduceLT, Nat.reduceLeDiff]) | (simp only [go_sem, Nat.reduceAdd, Nat.reduceMul, Nat.reduceEqDiff, Nat.reduceLT, Nat.reduceLeDiff, Bool.not_true]; (all_goals fail_if_success show False)) | fail
    · rw [e1 (by omega)]
      exact kp []
    · rw [e1 (by omega)]
      exact kp []
    · rw [e2 (by omega)]
      exact kp []
theorem xZ (s : Stor) (room left : Int) (h1 : s.disk.cells.length ≤ 2000000) (h2 : s.disk.waits.length ≤ 2000000) (h3 : s.pages.length ≤ 2000000) : Ok Tryz.prog 24 [aN s, vI room, vI left] (dJ (fZ (mG s) s room left)) (aJ (fZ (mG s) s room left)) := by
  have hO := iK s (by omega) (by omega) h3
  have hC := iJ s h1 h2 h3
  generalize mG s = b at hO ⊢
  have e0 : fZ false s room left = bU := if_neg (fun h => by cases h.1)
  have e1 : ¬ (-1 ≤ room ∧ -1 ≤ left) → fZ true s room left = bU := fun hn => if_neg (fun h => hn h.2)
  have e2 : -1 ≤ room ∧ -1 ≤ left → fZ true s room left = ⟨⟨s.disk.cells, s.disk.waits, room, left⟩, s.turn, s.tries, s.next, s.pages⟩ := fun h => if_pos ⟨rfl, h⟩
  cases b
  · rw [e0]
    refine stO Tryz.func24 [.cell 6 35] 29 rfl rfl rfl ?_
    repeat' first | refine sS ?_ | ((with_reducible show aC ..); refine cF rfl rfl rfl rfl hO ?_) | refine sO (fun K' hK' => ?_) | refine sY ?_ | (refine sE hK' ?_; clear hK') | (refine sD (fun hc => ?_) (fun hc => ?_) <;> try exact sZ hc) | ((with_reducible first | refine En.ret ?_ | refine En.normal ?_); simp only [go_sem, Nat.reduceAdd, Nat.reduceEqDiff, Nat.reduceLT, Nat.reduceLeDiff, bU]) | (simp only [go_sem, Nat.reduceAdd, Nat.reduceMul, Nat.reduceEqDiff, Nat.reduceLT, Nat.reduceLeDiff, Bool.not_false]; (all_goals fail_if_success show False)) | fail
    refine Weak.trans (Weak.none (k := 5) (t := 9) (by simp [upd])) (Weak.trans (Weak.none (k := 6) (t := 110) (by simp [upd])) (Weak.trans (Weak.none (k := 7) (t := 9) (by simp [upd])) ?_))
    exact kp [⟨5, 0, 9, []⟩, ⟨6, 1, 110, []⟩, ⟨7, 2, 9, []⟩]
  · refine stO Tryz.func24 [.cell 6 35] 29 rfl rfl rfl ?_
    repeat' first | refine sS ?_ | ((with_reducible show aC ..); first | refine cF rfl rfl rfl rfl hO ?_ | refine cR rfl rfl rfl rfl hC ?_) | refine sO (fun K' hK' => ?_) | refine sY ?_ | (refine sI (fun hg => ?_) (fun hg K' hK' => ?_) <;> try exact sZ hg) | (refine sE hK' ?_; clear hK') | (refine sD (fun hc => ?_) (fun hc => ?_) <;> try exact sZ hc) | ((with_reducible first | refine En.ret ?_ | refine En.normal ?_); simp only [go_sem, Nat.reduceAdd, Nat.reduceMul, Nat.reduceEqDiff, Nat.reduceLT, Nat.reduceLeDiff]) | (simp only [go_sem, Nat.reduceAdd, Nat.reduceMul, Nat.reduceEqDiff, Nat.reduceLT, Nat.reduceLeDiff, Bool.not_true]; (all_goals fail_if_success show False)) | fail
    · rw [e1 (by omega)]
      refine Weak.trans (Weak.none (k := 5) (t := 9) (by simp [upd])) (Weak.trans (Weak.none (k := 6) (t := 110) (by simp [upd])) (Weak.trans (Weak.none (k := 7) (t := 9) (by simp [upd])) ?_))
      exact kp [⟨5, 0, 9, []⟩, ⟨6, 1, 110, []⟩, ⟨7, 2, 9, []⟩]
    · rw [e1 (by omega)]
      refine Weak.trans (Weak.none (k := 5) (t := 9) (by simp [upd])) (Weak.trans (Weak.none (k := 6) (t := 110) (by simp [upd])) (Weak.trans (Weak.none (k := 7) (t := 9) (by simp [upd])) ?_))
      exact kp [⟨5, 0, 9, []⟩, ⟨6, 1, 110, []⟩, ⟨7, 2, 9, []⟩]
    · rw [e2 (by omega)]
      exact kp [⟨65552, 0, 9, (s.disk.cells.map vS)⟩, ⟨65553, 1, 110, (s.disk.waits.flatMap cWt)⟩, ⟨65554, 2, 9, (s.pages.map vS)⟩]
end Go.Proofs.YtknciobaifdafaaGreatDoor.T
set_option linter.unusedVariables false
set_option maxRecDepth 100000
set_option maxHeartbeats 4000000
set_option linter.unusedSimpArgs false
namespace Go.Proofs.YtknciobaifdafaaGreatDoor.T
open Go Go.Pv Go.Proofs.YtknciobaifdafaaGreatDoor.EF
theorem wo (l : List Wt) (x : Wt) : (l ++ [x]).flatMap cWt = l.flatMap cWt ++ [vI x.cell, vS x.text] := by simp [cWt]
theorem Gj : Ok Tryz.prog 163 [] (vDk ⟨List.replicate 42 ByteArray.empty, [], -1, -1⟩) [] := by
  refine stO Tryz.func163 [.cell 0 33] 3 rfl rfl rfl ?_
  repeat' first | refine sS ?_ | refine sO (fun K' hK' => ?_) | (refine sE hK' ?_; clear hK') | refine sU ?_ ?_ | exact sX | ((with_reducible first | refine En.ret ?_ | refine En.normal ?_); simp only [go_sem, Nat.reduceAdd, Nat.reduceEqDiff, Nat.reduceLT, Nat.reduceLeDiff]) | (simp only [go_sem, Nat.reduceAdd, Nat.reduceMul, Nat.reduceEqDiff, Nat.reduceLT, Nat.reduceLeDiff, Int.reduceToNat]; (all_goals fail_if_success show False)) | fail
  exact kp []
theorem iL (d : Dk) (cell : Int) (text : ByteArray) (hd : DkB d) : Ok Tryz.prog 130 [vDk d, vI cell, vS text] (.tup [vDk (aO d cell text).1, vB (aO d cell text).2]) [] := by
  have h1 : d.cells.length ≤ 2000000 := by have := hd.cells; omega
  have h2 : d.waits.length ≤ 2000000 := by have := hd.waits; omega
  have hC := ig d h1 h2
  have hW := xy ⟨cell, text⟩
  refine stO Tryz.func130 [.cell 6 33, .tmp 7] 51 rfl rfl rfl ?_
  repeat' first | refine sS ?_ | ((with_reducible show aC ..); first | refine cF rfl rfl rfl rfl hW ?_ | refine cF rfl rfl rfl rfl (yI _ (by have := hd.left; have := hd.room; omega)) ?_ | refine cR rfl rfl rfl rfl hC ?_) | refine sO (fun K' hK' => ?_) | refine sY ?_ | (refine sI (fun hg => ?_) (fun hg K' hK' => ?_) <;> try exact sZ hg) | (refine sE hK' ?_; clear hK') | (refine sD (fun hc => ?_) (fun hc => ?_) <;> try exact sZ hc) | refine sU ?_ ?_ | exact sX | ((with_reducible first | refine En.ret ?_ | refine En.normal ?_); simp only [go_sem, Nat.reduceAdd, Nat.reduceMul, Nat.reduceEqDiff, Nat.reduceLT, Nat.reduceLeDiff]) | (simp only [go_sem, Nat.reduceAdd, Nat.reduceMul, Nat.reduceEqDiff, Nat.reduceLT, Nat.reduceLeDiff]; (all_goals fail_if_success show False)) | fail
  · rw [kY hc]
    exact kp []
  · rw [jY (by assumption) (.inl hg)]
    exact kp []
  · rw [jY (by assumption) (.inr (.inl hg))]
    exact kp []
  · rw [jY (by assumption) (.inr (.inr (by omega)))]
    exact kp []
  · rw [iD (by assumption) (by simp only [not_or]; exact ⟨by simp_all, by assumption, by omega⟩)]
    exact Weak.intro [] (by simp) (by simp) (by simp) rfl (by simp [All2, vw, vwA, vwC, kap, upd, ax, vS, List.flatMap_append, cWt] <;> (intro z hz; rcases hz with ⟨_, _, rfl | rfl⟩ | rfl | rfl <;> exact Cln.b _)) (fun _ h => h.elim)
theorem l9 (d : Dk) (hd : DkB d) : Ok Tryz.prog 132 [vDk d] (vDk (aV d)) [] := by
  have h1 : d.cells.length ≤ 2000000 := by have := hd.cells; omega
  have h2 : d.waits.length ≤ 2000000 := by have := hd.waits; omega
  have hw : ∀ k, k < d.waits.length → 0 ≤ (d.waits.getD k wt0).cell ∧ (d.waits.getD k wt0).cell ≤ 41 := fun k hk => hd.ok _ (fV hk)
  have hl := hd.cells
  have hC := ig d h1 h2
  refine stO Tryz.func132 [.cell 2 33] 39 rfl rfl rfl ?_
  repeat' first | refine sS ?_ | ((with_reducible show aC ..); refine cR rfl rfl rfl rfl hC ?_) | refine sO (fun K' hK' => ?_) | (refine sE hK' ?_; clear hK') | (refine sD (fun hc => ?_) (fun hc => ?_) <;> try exact sZ hc) | ((with_reducible first | refine En.ret ?_ | refine En.normal ?_); simp only [go_sem, Nat.reduceAdd, Nat.reduceMul, Nat.reduceEqDiff, Nat.reduceLT, Nat.reduceLeDiff]) | (simp only [go_sem, Nat.reduceAdd, Nat.reduceMul, Nat.reduceEqDiff, Nat.reduceLT, Nat.reduceLeDiff]; (all_goals fail_if_success show False)) | fail
  · rw [show aV d = d from if_pos hc]
    exact kp []
  have hs : aV d = ⟨aj d.cells d.waits, [], d.room, au d.left⟩ := if_neg hc
  refine W.loop (fun i : Nat => ⟨[.any, .ptr 0 0, .ptr 1 0, .ptr 2 0, vI i, .any, .any, .any, .any, .any, .any, .any, .any, .any, .any, .any, .any, .any, .any, .any, .any, .any, .any, .any, .any, .any, .any, .any, .any, .any, .any, .any, .any, .any, .any, .any, .any, .any, .any], aZ [(0, 33, [.val d.cells.length (d.cells.map vS), .val d.waits.length (d.waits.flatMap cWt), vI d.room, vI d.left]), (1, 33, [.b (.slice none 0 0), .b (.slice none 0 0), vI 0, vI 0]), (2, 33, [.ref 3 0 d.cells.length, .ref 4 0 d.waits.length, vI d.room, vI d.left]), (3, 9, (aj d.cells (d.waits.take i)).map vS), (4, 110, d.waits.flatMap cWt)]⟩)
    (fun i => i ≤ d.waits.length ∧ (aj d.cells (d.waits.take i)).length = d.cells.length) (fun i => d.waits.length - i) 0 ?wk0 ⟨Nat.zero_le _, rfl⟩ (fun i hi => ?_)
  case wk0 => exact kp [⟨16384, 0, 33, [.val d.cells.length (d.cells.map vS), .val d.waits.length (d.waits.flatMap cWt), vI d.room, vI d.left]⟩, ⟨16400, 1, 33, [.b (.slice none 0 0), .b (.slice none 0 0), vI 0, vI 0]⟩, ⟨32800, 2, 33, [.ref 3 0 d.cells.length, .ref 4 0 d.waits.length, vI d.room, vI d.left]⟩, ⟨32784, 3, 9, (d.cells.map vS)⟩, ⟨32785, 4, 110, (d.waits.flatMap cWt)⟩]
  obtain ⟨hi, hlen⟩ := hi
  have hwi := hw i
  repeat' first | refine sS ?_ | (with_reducible refine vN ?_ ?_) | (with_reducible refine qX ?_ ?_) | ((with_reducible show aC ..); refine cF rfl rfl rfl rfl (yI _ (by have := hd.left; omega)) ?_) | refine sO (fun K' hK' => ?_) | refine yA (fun K' hA' => ?_) | ((with_reducible show W _ _ (.region 7 _ _) _ _); refine sV 15 ?_) | (refine sE hK' ?_; clear hK') | (refine sE hA' ?_; clear hA') | (refine sD (fun hc => ?_) (fun hc => ?_) <;> try exact sZ hc) | refine sU ?_ ?_ | exact sX | ((with_reducible first | refine En.ret ?_ | refine En.normal ?_); simp only [go_sem, Nat.reduceAdd, Nat.reduceEqDiff, Nat.reduceLT, Nat.reduceLeDiff]) | (simp only [go_sem, Nat.reduceAdd, Nat.reduceEqDiff, Nat.reduceLT, Nat.reduceLeDiff]; (all_goals fail_if_success show False)) | fail
  · refine Rnd.normal (i + 1) ⟨by omega, by rw [eQ (by omega), List.length_set]; exact hlen⟩ (by omega) ?_
    rw [af (x := (i : Int) + 1) (by omega) (by omega), eQ (by omega), dm]
    exact kp [⟨0, 0, 33, [.val d.cells.length (d.cells.map vS), .val d.waits.length (d.waits.flatMap cWt), vI d.room, vI d.left]⟩, ⟨1, 1, 33, [.b (.slice none 0 0), .b (.slice none 0 0), vI 0, vI 0]⟩, ⟨2, 2, 33, [.ref 3 0 d.cells.length, .ref 4 0 d.waits.length, vI d.room, vI d.left]⟩, ⟨3, 3, 9, (((aj d.cells (d.waits.take i)).set (d.waits.getD i wt0).cell.toNat (d.waits.getD i wt0).text).map vS)⟩, ⟨4, 4, 110, (d.waits.flatMap cWt)⟩]
  · rw [show d.waits.take i = d.waits from List.take_of_length_le (by omega)] at *
    rw [hs]
    exact Weak.intro [] (by simp) (by simp) (by simp) rfl (by simp [All2, vw, vwA, vwC, kap, upd, ax, vS, hlen]) (fun _ h => h.elim)
theorem pG (s : Stor) (d : Dk) (n : Int) (hd : DkB d) (hn : 0 ≤ n ∧ n ≤ 1) (ht : 0 ≤ s.tries ∧ s.tries ≤ 1000) (h1 : s.disk.cells.length ≤ 2000000) (h2 : s.disk.waits.length ≤ 2000000) (h3 : s.pages.length ≤ 2000000) : Ok Tryz.prog 131 [aN s, vDk d, vI n] (.tup [aN (bz s d n).1, vI (bz s d n).2]) [] := by
  have hC := l7 s h1 h2 h3
  have hS := l9 d hd
  unfold bz
  generalize aV d = d' at hS ⊢
  refine stO Tryz.func131 [.cell 6 35, .tmp 7] 25 rfl rfl rfl ?_
  repeat' first | refine sS ?_ | ((with_reducible show aC ..); first | refine cR rfl rfl rfl rfl hC ?_ | refine cR rfl rfl rfl rfl hS ?_) | refine sO (fun K' hK' => ?_) | (refine sE hK' ?_; clear hK') | (refine sD (fun hc => ?_) (fun hc => ?_) <;> try exact sZ hc) | ((with_reducible first | refine En.ret ?_ | refine En.normal ?_); simp only [go_sem, Nat.reduceAdd, Nat.reduceMul, Nat.reduceEqDiff, Nat.reduceLT, Nat.reduceLeDiff]) | (simp only [go_sem, Nat.reduceAdd, Nat.reduceMul, Nat.reduceEqDiff, Nat.reduceLT, Nat.reduceLeDiff]; (all_goals fail_if_success show False)) | fail
  · rw [if_pos hc]
    exact Weak.intro [] (by simp) (by simp) (by simp) rfl (by simp [All2, vw, vwA, vwC, ax, aU, bu, cZ]) (fun _ h => h.elim)
  · rw [if_neg hc]
    rw [af (by omega) (by omega)]
    exact Weak.intro [] (by simp) (by simp) (by simp) rfl (by simp [All2, vw, vwA, vwC, ax, aU, bu]) (fun _ h => h.elim)
theorem Gl (was next : Stor) (d : Dk) (h1 : was.disk.cells.length ≤ 2000000) (h2 : was.disk.waits.length ≤ 2000000) (h3 : was.pages.length ≤ 2000000) : Ok Tryz.prog 134 [aN was, aN next, vDk d] (.tup [aN (endS was next d).1, vI (endS was next d).2]) [] := by
  have hC := l7 was h1 h2 h3
  unfold endS
  refine stO Tryz.func134 [.cell 6 35, .tmp 7] 20 rfl rfl rfl ?_
  repeat' first | refine sS ?_ | ((with_reducible show aC ..); refine cR rfl rfl rfl rfl hC ?_) | refine sO (fun K' hK' => ?_) | (refine sE hK' ?_; clear hK') | (refine sD (fun hc => ?_) (fun hc => ?_) <;> try exact sZ hc) | ((with_reducible first | refine En.ret ?_ | refine En.normal ?_); simp only [go_sem, Nat.reduceAdd, Nat.reduceMul, Nat.reduceEqDiff, Nat.reduceLT, Nat.reduceLeDiff]) | (simp only [go_sem, Nat.reduceAdd, Nat.reduceMul, Nat.reduceEqDiff, Nat.reduceLT, Nat.reduceLeDiff]; (all_goals fail_if_success show False)) | fail
  · rw [if_pos hc]
    exact Weak.intro [] (by simp) (by simp) (by simp) rfl (by simp [All2, vw, vwA, vwC, ax, aU, bu, cZ]) (fun _ h => h.elim)
  · rw [if_neg hc]
    exact Weak.intro [] (by simp) (by simp) (by simp) rfl (by simp [All2, vw, vwA, vwC, ax, aU, bu, cZ]) (fun _ h => h.elim)
end Go.Proofs.YtknciobaifdafaaGreatDoor.T
set_option linter.unusedVariables false
set_option maxRecDepth 100000
set_option maxHeartbeats 4000000
set_option linter.unusedSimpArgs false
namespace Go.Proofs.YtknciobaifdafaaGreatDoor.T
open Go Go.Pv Go.Proofs.YtknciobaifdafaaGreatDoor.EF
theorem uz {pages : List ByteArray} {k i : Nat} {d : Dk} (h : d.cells.getD (2 + i) ByteArray.empty = pages.getD i ByteArray.empty) : bH pages (k + 1) i d = bH pages k (i + 1) d := by conv => lhs; unfold bH; rw [if_pos h]
theorem uA {pages : List ByteArray} {k i : Nat} {d : Dk} (h : ¬ d.cells.getD (2 + i) ByteArray.empty = pages.getD i ByteArray.empty) (h2 : (aO d (2 + i) (pages.getD i ByteArray.empty)).2 = true) : bH pages (k + 1) i d = bH pages k (i + 1) (aO d (2 + i) (pages.getD i ByteArray.empty)).1 := by conv => lhs; unfold bH; rw [if_neg h, if_pos h2]
theorem Gm {pages : List ByteArray} {k i : Nat} {d : Dk} (h : ¬ d.cells.getD (2 + i) ByteArray.empty = pages.getD i ByteArray.empty) (h2 : (aO d (2 + i) (pages.getD i ByteArray.empty)).2 = false) : bH pages (k + 1) i d = (d, false) := by conv => lhs; unfold bH; rw [if_neg h, h2]; simp
theorem kM (s : Stor) (hd : DkB s.disk) (hp : s.pages.length = 20) (ht : 0 ≤ s.turn ∧ s.turn ≤ 1000000000) (hr : 0 ≤ s.tries ∧ s.tries ≤ 1000) : Ok Tryz.prog 84 [aN s] (.tup [aN (ah s).1, vI (ah s).2]) [] := by
  have h1 : s.disk.cells.length ≤ 2000000 := by have := hd.cells; omega
  have h2 : s.disk.waits.length ≤ 2000000 := by have := hd.waits; omega
  have hC := l7 s h1 h2 (by omega)
  have hCd := jh s.disk h1 h2
  have hw1 : IntKind.i64.wrap (s.turn + 1) = s.turn + 1 := af (by omega) (by omega)
  refine stO Tryz.func84 [.cell 2 35, .tmp 3] 92 rfl rfl rfl ?_
  repeat' first | refine sS ?_ | ((with_reducible show aC ..); first | refine cR rfl rfl rfl rfl hC ?_ | refine cR rfl rfl rfl rfl hCd ?_) | refine sO (fun K' hK' => ?_) | (refine sE hK' ?_; clear hK') | (refine sD (fun hc => ?_) (fun hc => ?_) <;> try exact sZ hc) | ((with_reducible first | refine En.ret ?_ | refine En.normal ?_); simp only [go_sem, Nat.reduceAdd, Nat.reduceMul, Nat.reduceEqDiff, Nat.reduceLT, Nat.reduceLeDiff]) | (simp only [go_sem, Nat.reduceAdd, Nat.reduceMul, Nat.reduceEqDiff, Nat.reduceLT, Nat.reduceLeDiff]; (all_goals fail_if_success show False)) | fail
  · rw [show ah s = (s, 4) from if_pos hc]
    exact kp []
  refine W.loop (fun x : Nat × Dk => ⟨[.any, .ptr 0 0, .ptr 1 0, .any, .ptr 2 0, vI x.1, .any, .any, .any, .any, .any, .any, .any, .any, .any, .any, .any, .any, .any, .any, .any, .any, .any, .any, .any, .any, .any, .any, .any, .any, .any, .any, .any, .any, .any, .any, .any, .any, .any, .any, .any, .any, .any, .any, .any, .any, .any, .any, .any, .any, .any, .any, .any, .any, .any, .any, .any, .any, .any, .any, .any, .any, .any, .any, .any, .any, .any, .any, .any, .any, .any, .any, .any, .any, .any, .any, .any, .any, .any, .any, .any, .any, .any, .any, .any, .any, .any, .any, .any, .any, .any, .any], aZ [(0, 35, [.val s.disk.cells.length (s.disk.cells.map vS), .val s.disk.waits.length (s.disk.waits.flatMap cWt), vI s.disk.room, vI s.disk.left, vI s.turn, vI s.tries, vI s.next, .val s.pages.length (s.pages.map vS)]), (1, 35, [.b (.slice none 0 0), .b (.slice none 0 0), vI 0, vI 0, vI 0, vI 0, vI 0, .b (.slice none 0 0)]), (2, 33, [.val x.2.cells.length (x.2.cells.map vS), .val x.2.waits.length (x.2.waits.flatMap cWt), vI x.2.room, vI x.2.left])]⟩)
    (fun x => x.1 ≤ 20 ∧ DkB x.2 ∧ bH s.pages 20 0 s.disk = bH s.pages (20 - x.1) x.1 x.2) (fun x => 20 - x.1) (0, s.disk) ?wk0 ⟨Nat.zero_le _, hd, rfl⟩ (fun x hx => ?_)
  case wk0 => exact kp [⟨16384, 0, 35, [.val s.disk.cells.length (s.disk.cells.map vS), .val s.disk.waits.length (s.disk.waits.flatMap cWt), vI s.disk.room, vI s.disk.left, vI s.turn, vI s.tries, vI s.next, .val s.pages.length (s.pages.map vS)]⟩, ⟨16400, 1, 35, [.b (.slice none 0 0), .b (.slice none 0 0), vI 0, vI 0, vI 0, vI 0, vI 0, .b (.slice none 0 0)]⟩, ⟨65584, 2, 33, [.val s.disk.cells.length (s.disk.cells.map vS), .val s.disk.waits.length (s.disk.waits.flatMap cWt), vI s.disk.room, vI s.disk.left]⟩]
  obtain ⟨i, e⟩ := x
  obtain ⟨hi, he, hrest⟩ := hx
  dsimp only at hi he hrest ⊢
  have hix : ((2 : Int) + (i : Int)).toNat = 2 + i := by omega
  have hcl := he.cells
  have hdc := lD (i : Int) (by omega)
  obtain ⟨W1, hW1⟩ : ∃ W1, W1 = aO e (2 + (i : Int)) (s.pages.getD i ByteArray.empty) := ⟨_, rfl⟩
  have hW := iL e (2 + (i : Int)) (s.pages.getD i ByteArray.empty) he
  rw [← hW1] at hW
  have hF := pG s e 0 he (by omega) hr h1 h2 (by omega)
  have hSy := l9 e he
  have hHd := oH (s.turn + 1) (by omega) (by omega)
  generalize hS1 : aV e = e1 at hSy
  have he1 : DkB e1 := hS1 ▸ fG he
  obtain ⟨W2, hW2⟩ : ∃ W2, W2 = aO e1 ((s.turn + 1).tmod 2) (headB (s.turn + 1)) := ⟨_, rfl⟩
  have hX := iL e1 ((s.turn + 1).tmod 2) (headB (s.turn + 1)) he1
  rw [← hW2] at hX
  have hF1 := pG s e1 0 he1 (by omega) hr h1 h2 (by omega)
  have hSx := l9 W2.1 (hW2 ▸ fF he1 _ _)
  have hE := Gl s ⟨s.disk, s.turn + 1, 0, 0, s.pages⟩ (aV W2.1) h1 h2 (by omega)
  obtain ⟨H, hH⟩ : ∃ H, H = headB (s.turn + 1) := ⟨_, rfl⟩
  rw [← hH] at hHd hX hW2
  have hk : i < 20 → bH s.pages 20 0 s.disk = bH s.pages ((19 - i) + 1) i e := fun h => by rw [hrest, show 20 - i = (19 - i) + 1 by omega]
  have hx : ¬ i < 20 → bH s.pages 20 0 s.disk = (e, true) := fun h => by rw [hrest, show 20 - i = 0 by omega]; rfl
  have hrx : ¬ i < 20 → ¬ 99999 ≤ s.turn → ah s = fU s e1 := fun h h2 => by unfold ah; rw [if_neg h2, hx h, if_pos rfl, hS1]
  have hrx1 : W2.2 = false → fU s e1 = bz s e1 0 := fun h => by unfold fU; rw [← hH, ← hW2, h]; rfl
  have hrx2 : W2.2 = true → fU s e1 = endS s ⟨s.disk, s.turn + 1, 0, 0, s.pages⟩ (aV W2.1) := fun h => by unfold fU; rw [← hH, ← hW2, if_pos h]
  repeat' first | refine yQ ?_ | refine sP ?_ | ((with_reducible show W _ _ (.region 13 _ _) _ _); refine dA 16 13 229584 ?_) | ((with_reducible show W _ _ (.region 8 _ _) _ _); refine dA 15 12 147648 ?_) | refine sS ?_ | refine sN ?_ ?_ | ((with_reducible show uC ..); first | refine uF rfl rfl rfl rfl hdc ?_ | refine uF rfl rfl rfl rfl hHd ?_) | ((with_reducible show aC ..); first | refine cR rfl rfl rfl rfl hF ?_ | refine cR rfl rfl rfl rfl hSy ?_ | refine cR rfl rfl rfl rfl hF1 ?_ | refine cR rfl rfl rfl rfl hC ?_) | ((with_reducible show uC ..); first | refine uR rfl rfl rfl rfl hW ?_ | refine uR rfl rfl rfl rfl hX ?_ | refine uR rfl rfl rfl rfl hSx ?_ | refine uR rfl rfl rfl rfl hE ?_) | refine sO (fun K' hK' => ?_) | refine yA (fun K' hA' => ?_) | ((with_reducible show W _ _ (.region 20 _ _) _ _); refine sV 7 ?_) | ((with_reducible show W _ _ (.region 7 _ _) _ _); refine sV 12 ?_) | (refine sE hK' ?_; clear hK') | (refine sE hA' ?_; clear hA') | (refine sD (fun hc => ?_) (fun hc => ?_) <;> try exact sZ hc) | refine sU ?_ ?_ | exact sX | ((with_reducible first | refine En.ret ?_ | refine En.normal ?_); simp only [go_sem, Nat.reduceAdd, Nat.reduceMul, Nat.reduceEqDiff, Nat.reduceLT, Nat.reduceLeDiff]) | (simp only [go_sem, Nat.reduceAdd, Nat.reduceMul, Nat.reduceEqDiff, Nat.reduceLT, Nat.reduceLeDiff, hix, hw1]; (all_goals fail_if_success show False)) | fail
  · rw [show ah s = bz s e 0 by unfold ah; rw [if_neg (by assumption), hk (by omega), Gm (by assumption) (hW1 ▸ hc)]; rfl]
    generalize bz s e 0 = Z
    exact kp []
  · refine Rnd.normal (i + 1, W1.1) ⟨by dsimp only; omega, hW1 ▸ fF he _ _, ?_⟩ (by dsimp only; omega) ?_
    · dsimp only
      rw [hk (by omega), uA (by assumption) (hW1 ▸ hc), ← hW1, show 19 - i = 20 - (i + 1) by omega]
    · rw [af (x := (i : Int) + 1) (by omega) (by omega)]
      exact kp [⟨0, 0, 35, [.val s.disk.cells.length (s.disk.cells.map vS), .val s.disk.waits.length (s.disk.waits.flatMap cWt), vI s.disk.room, vI s.disk.left, vI s.turn, vI s.tries, vI s.next, .val s.pages.length (s.pages.map vS)]⟩, ⟨1, 1, 35, [.b (.slice none 0 0), .b (.slice none 0 0), vI 0, vI 0, vI 0, vI 0, vI 0, .b (.slice none 0 0)]⟩, ⟨2, 2, 33, [.val W1.1.cells.length (W1.1.cells.map vS), .val W1.1.waits.length (W1.1.waits.flatMap cWt), vI W1.1.room, vI W1.1.left]⟩]
  · refine Rnd.normal (i + 1, e) ⟨by dsimp only; omega, he, ?_⟩ (by dsimp only; omega) ?_
    · dsimp only
      rw [hk (by omega), uz (by assumption), show 19 - i = 20 - (i + 1) by omega]
    · rw [af (x := (i : Int) + 1) (by omega) (by omega)]
      exact kp [⟨0, 0, 35, [.val s.disk.cells.length (s.disk.cells.map vS), .val s.disk.waits.length (s.disk.waits.flatMap cWt), vI s.disk.room, vI s.disk.left, vI s.turn, vI s.tries, vI s.next, .val s.pages.length (s.pages.map vS)]⟩, ⟨1, 1, 35, [.b (.slice none 0 0), .b (.slice none 0 0), vI 0, vI 0, vI 0, vI 0, vI 0, .b (.slice none 0 0)]⟩, ⟨2, 2, 33, [.val e.cells.length (e.cells.map vS), .val e.waits.length (e.waits.flatMap cWt), vI e.room, vI e.left]⟩]
  · rw [hrx (by omega) (by assumption), hrx1 hc]
    generalize bz s e1 0 = Z
    exact kp []
  · rw [hrx (by omega) (by assumption), hrx2 hc]
    generalize endS s ⟨s.disk, s.turn + 1, 0, 0, s.pages⟩ (aV W2.1) = Z
    exact kp []
end Go.Proofs.YtknciobaifdafaaGreatDoor.T
set_option linter.unusedVariables false
set_option maxRecDepth 100000
set_option maxHeartbeats 4000000
set_option linter.unusedSimpArgs false
namespace Go.Proofs.YtknciobaifdafaaGreatDoor.T
open Go Go.Pv Go.Proofs.YtknciobaifdafaaGreatDoor.EF
theorem Bg (s : Stor) (h1 : s.disk.cells.length ≤ 2000000) (h2 : s.disk.waits.length ≤ 2000000) (h3 : s.pages.length ≤ 2000000) (hr : s.disk.room ≤ 9223372036854775807) (hl : s.disk.left ≤ 9223372036854775807) : Ok Tryz.prog 39 [aN s] (.tup [aN (fM (ag s) s).1, vI (fM (ag s) s).2]) [] := by
  have hO := vY s (by omega) (by omega) h3
  have hR : ag s = true → Ok Tryz.prog 84 [aN s] (.tup [aN (ah s).1, vI (ah s).2]) [] := fun h => by
    have hb := gZ hr hl h
    exact kM s hb.disk hb.pages (by have := hb.turn; omega) (by have := hb.tries; omega)
  generalize ag s = b at hO hR ⊢
  cases b
  · refine stO Tryz.func39 [.cell 2 35, .tmp 3] 12 rfl rfl rfl ?_
    repeat' first | refine sS ?_ | ((with_reducible show aC ..); refine cF rfl rfl rfl rfl hO ?_) | refine sO (fun K' hK' => ?_) | (refine sE hK' ?_; clear hK') | (refine sD (fun hc => ?_) (fun hc => ?_) <;> try exact sZ hc) | ((with_reducible first | refine En.ret ?_ | refine En.normal ?_); simp only [go_sem, Nat.reduceAdd, Nat.reduceEqDiff, Nat.reduceLT, Nat.reduceLeDiff]) | (simp only [go_sem, Nat.reduceAdd, Nat.reduceMul, Nat.reduceEqDiff, Nat.reduceLT, Nat.reduceLeDiff, Bool.not_false]; (all_goals fail_if_success show False)) | fail
    exact Weak.intro [] (by simp) (by simp) (by simp) rfl (by simp [All2, vw, vwA, vwC, ax, bU, fM]) (fun _ h => h.elim)
  · replace hR := hR rfl
    unfold fM
    rw [if_pos rfl]
    generalize ah s = Z at hR ⊢
    refine stO Tryz.func39 [.cell 2 35, .tmp 3] 12 rfl rfl rfl ?_
    repeat' first | refine sS ?_ | ((with_reducible show aC ..); first | refine cF rfl rfl rfl rfl hO ?_ | refine cR rfl rfl rfl rfl hR ?_) | refine sO (fun K' hK' => ?_) | (refine sE hK' ?_; clear hK') | (refine sD (fun hc => ?_) (fun hc => ?_) <;> try exact sZ hc) | ((with_reducible first | refine En.ret ?_ | refine En.normal ?_); simp only [go_sem, Nat.reduceAdd, Nat.reduceMul, Nat.reduceEqDiff, Nat.reduceLT, Nat.reduceLeDiff]) | (simp only [go_sem, Nat.reduceAdd, Nat.reduceMul, Nat.reduceEqDiff, Nat.reduceLT, Nat.reduceLeDiff, Bool.not_true]; (all_goals fail_if_success show False)) | fail
    exact kp []
theorem ji (d : Dk) (h1 : d.cells.length ≤ 2000000) (h2 : d.waits.length ≤ 2000000) (hr : d.room ≤ 9223372036854775807) (hl : d.left ≤ 9223372036854775807) : Ok Tryz.prog 36 [vDk d] (.tup [aN (dn (ai d)).1, vI (dn (ai d)).2]) [] := by
  have hO := nU d (by omega) (by omega)
  have hR : (ai d).2 = true → Ok Tryz.prog 84 [aN (ai d).1] (.tup [aN (ah (ai d).1).1, vI (ah (ai d).1).2]) [] := fun h => by
    have hb := (lC hr hl h).1
    exact kM _ hb.disk hb.pages (by have := hb.turn; omega) (by have := hb.tries; omega)
  generalize ai d = B at hO hR ⊢
  obtain ⟨x, b⟩ := B
  cases b
  · refine stO Tryz.func36 [.cell 2 35, .tmp 3] 29 rfl rfl rfl ?_
    repeat' first | refine sS ?_ | ((with_reducible show aC ..); refine cR rfl rfl rfl rfl hO ?_) | refine sO (fun K' hK' => ?_) | (refine sE hK' ?_; clear hK') | (refine sD (fun hc => ?_) (fun hc => ?_) <;> try exact sZ hc) | ((with_reducible first | refine En.ret ?_ | refine En.normal ?_); simp only [go_sem, Nat.reduceAdd, Nat.reduceMul, Nat.reduceEqDiff, Nat.reduceLT, Nat.reduceLeDiff]) | (simp only [go_sem, Nat.reduceAdd, Nat.reduceMul, Nat.reduceEqDiff, Nat.reduceLT, Nat.reduceLeDiff, Bool.not_false]; (all_goals fail_if_success show False)) | fail
    exact Weak.intro [] (by simp) (by simp) (by simp) rfl (by simp [All2, vw, vwA, vwC, ax, bU, dn]) (fun _ h => h.elim)
  · replace hR := hR rfl
    dsimp only at hR hO
    unfold dn
    rw [if_pos rfl]
    dsimp only
    generalize ah x = Z at hR ⊢
    refine stO Tryz.func36 [.cell 2 35, .tmp 3] 29 rfl rfl rfl ?_
    repeat' first | refine sS ?_ | ((with_reducible show aC ..); first | refine cR rfl rfl rfl rfl hO ?_ | refine cR rfl rfl rfl rfl hR ?_) | refine sO (fun K' hK' => ?_) | (refine sE hK' ?_; clear hK') | (refine sD (fun hc => ?_) (fun hc => ?_) <;> try exact sZ hc) | ((with_reducible first | refine En.ret ?_ | refine En.normal ?_); simp only [go_sem, Nat.reduceAdd, Nat.reduceMul, Nat.reduceEqDiff, Nat.reduceLT, Nat.reduceLeDiff]) | (simp only [go_sem, Nat.reduceAdd, Nat.reduceMul, Nat.reduceEqDiff, Nat.reduceLT, Nat.reduceLeDiff, Bool.not_true]; (all_goals fail_if_success show False)) | fail
    · unfold nD
      rw [if_neg hc]
      exact Weak.intro [] (by simp) (by simp) (by simp) rfl (by simp [All2, vw, vwA, vwC, ax, aU, bu, bU, cZ]) (fun _ h => h.elim)
    · have hz : Z.2 = 0 := by omega
      unfold nD
      rw [if_pos hz]
      exact Weak.intro [] (by simp) (by simp) (by simp) rfl (by simp [All2, vw, vwA, vwC, ax, aU, bu, hz]) (fun _ h => h.elim)
end Go.Proofs.YtknciobaifdafaaGreatDoor.T
