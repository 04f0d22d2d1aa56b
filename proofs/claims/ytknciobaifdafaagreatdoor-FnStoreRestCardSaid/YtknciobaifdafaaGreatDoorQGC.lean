/- The draws of the store, walked, part 12: a disk read, a new store, a store of another turn, with rows of their own. -/
import Derived.Test.YtknciobaifdafaaGreatDoorQEZ
import Derived.Test.YtknciobaifdafaaGreatDoorQG6
import Derived.Test.YtknciobaifdafaaGreatDoorQDC
set_option linter.unusedVariables false
set_option maxRecDepth 100000
set_option maxHeartbeats 4000000
set_option linter.unusedSimpArgs false
namespace Go.Pv
end Go.Pv
namespace Go.Proofs.YtknciobaifdafaaGreatDoor.T
open Go Go.Pv Go.Proofs.YtknciobaifdafaaGreatDoor.EF
theorem Aw (s : Stor) (hg : Go.Pv.Good s) (hrm : -1 ≤ s.disk.room) (hlf : -1 ≤ s.disk.left) (hn : s.next = 0) (htr : s.tries = 0) (hp : s.pages = ay s.disk.cells) : Ok Tryz.prog 81 [vDk s.disk] (.tup [dJ s, vB true]) (aJ s) := by
  have hlen := hg.len
  have hwl : s.disk.waits.length = 0 := by rw [hg.waits]; rfl
  have hs : ∀ k, (s.disk.cells.getD k ByteArray.empty).size ≤ 1000000 := fun k => by have := hg.small k; unfold cellAt at this; omega
  have ht0 := ry (s.disk.cells.getD 0 ByteArray.empty) 0 (hs 0)
  have ht1 := ry (s.disk.cells.getD 1 ByteArray.empty) 1 (hs 1)
  have hr0 : 0 ≤ aA (s.disk.cells.getD 0 ByteArray.empty) 0 ∧ aA (s.disk.cells.getD 0 ByteArray.empty) 0 ≤ 99999 := je _ _
  have hr1 : 0 ≤ aA (s.disk.cells.getD 1 ByteArray.empty) 1 ∧ aA (s.disk.cells.getD 1 ByteArray.empty) 1 ≤ 99999 := je _ _
  have hh := hg.heads
  unfold cellAt at hh
  generalize aA (s.disk.cells.getD 0 ByteArray.empty) 0 = a at ht0 hr0 hh ⊢
  generalize aA (s.disk.cells.getD 1 ByteArray.empty) 1 = b at ht1 hr1 hh ⊢
  have hgr := uy a b
  rw [hh] at hgr
  have htu := hg.turn
  have hlate := zL s.disk s.turn hlen hs
  rw [(uD (by omega)).2 hg.late] at hlate
  have hcopy := ig s.disk (by omega) (by omega)
  have hcl := BP s.disk.cells s.turn
  have hgt := o5 s.disk.cells s.turn
  have hgrp0 := zJ s.disk s.turn 0 0 hlen hs (by omega) (by omega)
  have htried := zK s.disk s.turn hlen hs (by omega)
  have hmost := hg.most
  rw [htr] at hmost
  have hz : (aY (gOf s.disk.cells s.turn) 0 20 0 0 []).1 ≤ 0 := by
    unfold aY
    rw [if_pos (.inl (hmost 0 (by omega)))]
    exact Int.le_refl 0
  have hz2 := lw (g := gOf s.disk.cells s.turn) (above := 0) 20 0 0 []
  have htl : trL (gOf s.disk.cells s.turn) 20 = 0 := by
    have h1 := Eg (g := gOf s.disk.cells s.turn) (Int.le_refl 0) (n := 20) hmost
    have h2 := (uu (gOf s.disk.cells s.turn) hgt 20).1
    omega
  rw [htl] at htried
  generalize aY (gOf s.disk.cells s.turn) 0 20 0 0 [] = G at hgrp0 hz hz2
  have hG1 : G.1 = 0 := by omega
  have hbig := hg.big
  rw [hp] at hbig
  obtain ⟨⟨C, Ws, room, left⟩, T, tries, next, P⟩ := s
  dsimp only at *
  subst hn htr hp
  refine stO Tryz.func81 [.cell 2 35, .tmp 3] 95 rfl rfl rfl ?_
  repeat' first | refine sS ?_ | refine sN ?_ ?_ | ((with_reducible show aC ..); refine cF rfl rfl rfl rfl hlate ?_) | ((with_reducible show uC ..); first | refine uF rfl rfl rfl rfl ht0 ?_ | refine uF rfl rfl rfl rfl ht1 ?_ | refine uF rfl rfl rfl rfl hgr ?_) | ((with_reducible show aC ..); refine cR rfl rfl rfl rfl hcopy ?_) | refine sO (fun K' hK' => ?_) | (refine sI (fun hg => ?_) (fun hg K' hK' => ?_) <;> try exact sZ hg) | refine yA (fun K' hA' => ?_) | ((with_reducible show W _ _ (.region 1 _ _) _ _); refine sV 12 ?_) | (refine sE hK' ?_; clear hK') | (refine sE hA' ?_; clear hA') | (refine sD (fun hc => ?_) (fun hc => ?_) <;> try exact sZ hc) | refine sU ?_ ?_ | exact sX | (simp only [go_sem, Nat.reduceAdd, Nat.reduceMul, Nat.reduceEqDiff, Nat.reduceLT, Nat.reduceLeDiff, Int.reduceToNat]; (all_goals fail_if_success show False)) | fail
  refine W.loop (fun i : Nat => ⟨[.any, .ptr 0 0, .ptr 1 0, vB false, vI T, .ptr 2 0, vI i, .any, .any, .any, .any, .any, .any, .any, .any, .any, .any, .any, .any, .any, .any, .any, .any, .any, .any, .any, .any, .any, .any, .any, .any, .any, .any, .any, .any, .any, .any, .any, .any, .any, .any, .any, .any, .any, .any, .any, .any, .any, .any, .any, .any, .any, .any, .any, .any, .any, .any, .any, .any, .any, .any, .any, .any, .any, .any, .any, .any, .any, .any, .any, .any, .any, .any, .any, .any, .any, .any, .any, .any, .any, .any, .any, .any, .any, .any, .any, .any, .any, .any, .any, .any, .any, .any, .any, .any], aZ [(0, 33, [.val C.length (C.map vS), .val Ws.length (Ws.flatMap cWt), vI room, vI left]), (1, 35, [.b (.slice none 0 0), .b (.slice none 0 0), vI 0, vI 0, vI 0, vI 0, vI 0, .b (.slice none 0 0)]), (2, 35, [.ref 4 0 C.length, .ref 5 0 Ws.length, vI room, vI left, vI T, vI 0, vI 0, .ref 3 0 i]), (3, 9, ((C.drop 2).take i).map vS), (4, 9, C.map vS), (5, 110, Ws.flatMap cWt)]⟩) (fun i => i ≤ 20) (fun i => 20 - i) 0 ?wk0 (by omega) (fun i hi => ?_)
  case wk0 =>
    refine Weak.trans (Weak.none (k := 7) (t := 9) (by simp [upd])) ?_
    exact kp [⟨16384, 0, 33, [.val C.length (C.map vS), .val Ws.length (Ws.flatMap cWt), vI room, vI left]⟩, ⟨16400, 1, 35, [.b (.slice none 0 0), .b (.slice none 0 0), vI 0, vI 0, vI 0, vI 0, vI 0, .b (.slice none 0 0)]⟩, ⟨81984, 2, 35, [.ref 4 0 C.length, .ref 5 0 Ws.length, vI room, vI left, vI T, vI 0, vI 0, .ref 3 0 0]⟩, ⟨7, 3, 9, []⟩, ⟨81936, 4, 9, (C.map vS)⟩, ⟨81937, 5, 110, (Ws.flatMap cWt)⟩]
  have hpl : ((C.drop 2).take i).length = i := by rw [List.length_take, List.length_drop]; omega
  repeat' first | refine sS ?_ | refine sN ?_ ?_ | (with_reducible refine hpl) | ((with_reducible show uC ..); refine uF rfl rfl rfl rfl (lD _ (by omega)) ?_) | ((with_reducible show aC ..); refine cR rfl rfl rfl rfl hgrp0 ?_) | refine sO (fun K' hK' => ?_) | refine yA (fun K' hA' => ?_) | ((with_reducible show W _ _ (.region 8 _ _) _ _); refine sV 9 ?_) | (refine sE hK' ?_; clear hK') | (refine sE hA' ?_; clear hA') | (refine sD (fun hc => ?_) (fun hc => ?_) <;> try exact sZ hc) | refine sU ?_ ?_ | exact sX | (simp only [go_sem, Nat.reduceAdd, Nat.reduceMul, Nat.reduceEqDiff, Nat.reduceLT, Nat.reduceLeDiff]; (all_goals fail_if_success show False)) | fail
  · have hrow : List.map vS ((C.drop 2).take i) ++ [vS (C.getD (2 + (i : Int)).toNat ByteArray.empty)] = ((C.drop 2).take (i + 1)).map vS := by
      rw [vX (by omega), List.map_append, show (2 + (i : Int)).toNat = 2 + i by omega]; rfl
    refine Rnd.normal (i + 1) (by omega) (by omega) ?_
    rw [af (x := (i : Int) + 1) (by omega) (by omega), hrow]
    exact kp [⟨0, 0, 33, [.val C.length (C.map vS), .val Ws.length (Ws.flatMap cWt), vI room, vI left]⟩, ⟨1, 1, 35, [.b (.slice none 0 0), .b (.slice none 0 0), vI 0, vI 0, vI 0, vI 0, vI 0, .b (.slice none 0 0)]⟩, ⟨2, 2, 35, [.ref 4 0 C.length, .ref 5 0 Ws.length, vI room, vI left, vI T, vI 0, vI 0, .ref 3 0 (i + 1)]⟩, ⟨147600, 3, 9, (((C.drop 2).take (i + 1)).map vS)⟩, ⟨4, 4, 9, (C.map vS)⟩, ⟨5, 5, 110, (Ws.flatMap cWt)⟩]
  obtain rfl : i = 20 := by omega
  have hp20 : (C.drop 2).take 20 = ay C := rfl
  have hpl20 : (ay C).length = 20 := hpl
  rw [hp20]
  rw [hG1] at hgrp0
  refine W.loop (fun x : Unit => ⟨[.any, .ptr 0 0, .ptr 1 0, vB false, vI T, .ptr 2 0, .any, vI 0, vI G.2.1, vWts G.2.2, .any, .any, .any, .any, .any, .any, .any, .any, .any, .any, .any, .any, .any, .any, .any, .any, .any, .any, .any, .any, .any, .any, .any, .any, .any, .any, .any, .any, .any, .any, .any, .any, .any, .any, .any, .any, .any, .any, .any, .any, .any, .any, .any, .any, .any, .any, .any, .any, .any, .any, .any, .any, .any, .any, .any, .any, .any, .any, .any, .any, .any, .any, .any, .any, .any, .any, .any, .any, .any, .any, .any, .any, .any, .any, .any, .any, .any, .any, .any, .any, .any, .any, .any, .any, .any], aZ [(0, 33, [.val C.length (C.map vS), .val Ws.length (Ws.flatMap cWt), vI room, vI left]), (1, 35, [.b (.slice none 0 0), .b (.slice none 0 0), vI 0, vI 0, vI 0, vI 0, vI 0, .b (.slice none 0 0)]), (2, 35, [.ref 4 0 C.length, .ref 5 0 Ws.length, vI room, vI left, vI T, vI 0, vI 0, .ref 3 0 20]), (3, 9, (ay C).map vS), (4, 9, C.map vS), (5, 110, Ws.flatMap cWt)]⟩) (fun _ => True) (fun _ => 0) () ?wk1 trivial (fun _ _ => ?_)
  case wk1 => exact Weak.intro [⟨0, 0, 33, [.val C.length (C.map vS), .val Ws.length (Ws.flatMap cWt), vI room, vI left]⟩, ⟨1, 1, 35, [.b (.slice none 0 0), .b (.slice none 0 0), vI 0, vI 0, vI 0, vI 0, vI 0, .b (.slice none 0 0)]⟩, ⟨2, 2, 35, [.ref 4 0 C.length, .ref 5 0 Ws.length, vI room, vI left, vI T, vI 0, vI 0, .ref 3 0 20]⟩, ⟨3, 3, 9, ((ay C).map vS)⟩, ⟨4, 4, 9, (C.map vS)⟩, ⟨5, 5, 110, (Ws.flatMap cWt)⟩] (by simp) (by simp) (by intro e he; simp only [List.mem_cons, List.not_mem_nil, or_false] at he; rcases he with rfl | rfl | rfl | rfl | rfl | rfl <;> refine ⟨_, by simp only [upd, if_true, if_false, Nat.reduceEqDiff]; rfl, ?_⟩ <;> first | (simp [All2, vwC, kap, ax, aU, bu]; done) | (refine bC ?_; first | exact bn | exact bJ | exact flat_nil | (repeat' with_reducible first | exact flat_nil | exact dE | exact bf | exact bD | refine Flat.cons ?_ ?_); done)) rfl (by simp [All2, vw, vwA, vwC, kap, ax, xn, hG1]) (fun _ h => h.elim)
  repeat' first | refine sS ?_ | ((with_reducible show aC ..); refine cF rfl rfl rfl rfl htried ?_) | refine sO (fun K' hK' => ?_) | (refine sE hK' ?_; clear hK') | (refine sD (fun hc => ?_) (fun hc => ?_) <;> try exact sZ hc) | (simp only [go_sem, Nat.reduceAdd, Nat.reduceEqDiff, Nat.reduceLT, Nat.reduceLeDiff]; (all_goals fail_if_success show False)) | fail
  refine W.loop (fun i : Nat => ⟨[.any, .any, .ptr 1 0, vB false, .any, .ptr 2 0, .any, .any, .any, .any, vI i, .any, .any, .any, .any, .any, .any, .any, .any, .any, .any, .any, .any, .any, .any, .any, .any, .any, .any, .any, .any, .any, .any, .any, .any, .any, .any, .any, .any, .any, .any, .any, .any, .any, .any, .any, .any, .any, .any, .any, .any, .any, .any, .any, .any, .any, .any, .any, .any, .any, .any, .any, .any, .any, .any, .any, .any, .any, .any, .any, .any, .any, .any, .any, .any, .any, .any, .any, .any, .any, .any, .any, .any, .any, .any, .any, .any, .any, .any, .any, .any, .any, .any, .any, .any], aZ [(0, 33, [.val C.length (C.map vS), .val Ws.length (Ws.flatMap cWt), vI room, vI left]), (1, 35, [.b (.slice none 0 0), .b (.slice none 0 0), vI 0, vI 0, vI 0, vI 0, vI 0, .b (.slice none 0 0)]), (2, 35, [.ref 4 0 C.length, .ref 5 0 Ws.length, vI room, vI left, vI T, vI 0, vI 0, .ref 3 0 20]), (3, 9, (ay C).map vS), (4, 9, C.map vS), (5, 110, Ws.flatMap cWt)]⟩)
    (fun i => i ≤ 20 ∧ dL (fun k => decide (1100 < ((ay C).getD k ByteArray.empty).size)) i = false) (fun i => 20 - i) 0 ?wk2 ⟨by omega, rfl⟩ (fun i hi => ?_)
  case wk2 => exact kp [⟨0, 0, 33, [.val C.length (C.map vS), .val Ws.length (Ws.flatMap cWt), vI room, vI left]⟩, ⟨1, 1, 35, [.b (.slice none 0 0), .b (.slice none 0 0), vI 0, vI 0, vI 0, vI 0, vI 0, .b (.slice none 0 0)]⟩, ⟨2, 2, 35, [.ref 4 0 C.length, .ref 5 0 Ws.length, vI room, vI left, vI T, vI 0, vI 0, .ref 3 0 20]⟩, ⟨3, 3, 9, ((ay C).map vS)⟩, ⟨4, 4, 9, (C.map vS)⟩, ⟨5, 5, 110, (Ws.flatMap cWt)⟩]
  obtain ⟨hi, hno⟩ := hi
  have hps : i < 20 → ((ay C).getD i ByteArray.empty).size ≤ 1100 := fun h => by
    have := of_decide_eq_false (kN hbig h)
    omega
  repeat' first | refine sS ?_ | refine sN ?_ ?_ | refine sO (fun K' hK' => ?_) | (refine sE hK' ?_; clear hK') | (refine sD (fun hc => ?_) (fun hc => ?_) <;> try exact sZ hc) | refine sU ?_ ?_ | exact sX | ((with_reducible first | refine En.ret ?_ | refine En.normal ?_); simp only [go_sem, Nat.reduceAdd, Nat.reduceEqDiff, Nat.reduceLT, Nat.reduceLeDiff]) | (simp only [go_sem, Nat.reduceAdd, Nat.reduceEqDiff, Nat.reduceLT, Nat.reduceLeDiff]; (all_goals fail_if_success show False)) | fail
  · refine Rnd.normal (i + 1) ⟨by omega, ?_⟩ (by omega) ?_
    · unfold dL; rw [hno, Bool.false_or, decide_eq_false_iff_not]; omega
    · rw [af (x := (i : Int) + 1) (by omega) (by omega)]
      exact kp [⟨0, 0, 33, [.val C.length (C.map vS), .val Ws.length (Ws.flatMap cWt), vI room, vI left]⟩, ⟨1, 1, 35, [.b (.slice none 0 0), .b (.slice none 0 0), vI 0, vI 0, vI 0, vI 0, vI 0, .b (.slice none 0 0)]⟩, ⟨2, 2, 35, [.ref 4 0 C.length, .ref 5 0 Ws.length, vI room, vI left, vI T, vI 0, vI 0, .ref 3 0 20]⟩, ⟨3, 3, 9, ((ay C).map vS)⟩, ⟨4, 4, 9, (C.map vS)⟩, ⟨5, 5, 110, (Ws.flatMap cWt)⟩]
  · obtain rfl : i = 20 := by omega
    simp only [aJ]
    exact Weak.intro [⟨4, 0, 9, (C.map vS)⟩, ⟨5, 1, 110, (Ws.flatMap cWt)⟩, ⟨3, 2, 9, ((ay C).map vS)⟩] (by simp) (by simp) (by intro e he; simp only [List.mem_cons, List.not_mem_nil, or_false] at he; rcases he with rfl | rfl | rfl <;> refine ⟨_, by simp only [upd, if_true, if_false, Nat.reduceEqDiff]; rfl, ?_⟩ <;> first | (simp [kap]; done) | (refine bC ?_; first | exact bn | exact bJ | exact flat_nil | (repeat' with_reducible first | exact flat_nil | exact dE | exact bf | exact bD | refine Flat.cons ?_ ?_); done)) rfl (by simp [All2, vw, vwA, vwC, kap, ax, hpl20]) (fun _ h => h.elim)
theorem Eo : Ok Tryz.prog 146 [] (dJ newS) (aJ newS) := by
  have hD : Ok Tryz.prog 163 [] (vDk jZ) [] := Gj
  have hH := oH 1 (by omega) (by omega)
  have hW := iL jZ 1 (headB 1) Jm
  have hS := l9 _ (fF Jm 1 (headB 1))
  have hg := Ag (-1) (-1)
  have hw : wtOk ⟨1, headB 1⟩ = true := by
    unfold wtOk
    rw [Bool.and_eq_true]
    exact ⟨rfl, decide_eq_true (kR (by decide) (by decide))⟩
  have e : aV (aO jZ 1 (headB 1)).1 = ⟨newC, [], -1, -1⟩ := by
    rw [iD (by decide) (by rw [hw]; decide)]
    rfl
  obtain ⟨S0, hS0⟩ : ∃ S0, S0 = newS := ⟨_, rfl⟩
  have hS1 := hS0.trans Jv
  have hR := Aw S0 (by rw [hS1]; exact hg) (by rw [hS1]; exact Int.le_refl _) (by rw [hS1]; exact Int.le_refl _) (by rw [hS1]) (by rw [hS1]) (by rw [hS1])
  have hSd : S0.disk = ⟨newC, [], -1, -1⟩ := by rw [hS1]
  rw [← hS0]
  rw [e, ← hSd] at hS
  obtain ⟨H, hHe⟩ : ∃ H, H = headB 1 := ⟨_, rfl⟩
  rw [← hHe] at hH hW hS
  generalize jZ = E at hD hW hS ⊢
  generalize aO E 1 H = X at hW hS ⊢
  refine stO Tryz.func146 [.cell 0 35] 18 rfl rfl rfl ?_
  repeat' first | refine sS ?_ | ((with_reducible show aC ..); first | refine cF rfl rfl rfl rfl hH ?_ | refine cR rfl rfl rfl rfl hD ?_ | refine cR rfl rfl rfl rfl hW ?_ | refine cR rfl rfl rfl rfl hS ?_ | refine cR rfl rfl rfl rfl hR ?_) | refine sO (fun K' hK' => ?_) | (refine sE hK' ?_; clear hK') | ((with_reducible first | refine En.ret ?_ | refine En.normal ?_); simp only [go_sem, Nat.reduceAdd, Nat.reduceMul, Nat.reduceEqDiff, Nat.reduceLT, Nat.reduceLeDiff]) | (simp only [go_sem, Nat.reduceAdd, Nat.reduceMul, Nat.reduceEqDiff, Nat.reduceLT, Nat.reduceLeDiff]; (all_goals fail_if_success show False)) | fail
  all_goals
    simp only [aJ]
    exact kp [⟨49184, 0, 9, (S0.disk.cells.map vS)⟩, ⟨49185, 1, 110, (S0.disk.waits.flatMap cWt)⟩, ⟨49186, 2, 9, (S0.pages.map vS)⟩]
end Go.Proofs.YtknciobaifdafaaGreatDoor.T
