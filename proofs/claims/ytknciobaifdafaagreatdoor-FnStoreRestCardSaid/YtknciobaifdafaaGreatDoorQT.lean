/- Walks of the store's functions, part 10: a group of frames. -/
import Derived.Test.YtknciobaifdafaaGreatDoorQEZ
import Derived.Test.YtknciobaifdafaaGreatDoorQS5
import Derived.Test.YtknciobaifdafaaGreatDoorQD
import Derived.Test.YtknciobaifdafaaGreatDoorQS0
set_option linter.unusedVariables false
set_option maxRecDepth 100000
set_option maxHeartbeats 4000000
set_option linter.unusedSimpArgs false
namespace Go.Proofs.YtknciobaifdafaaGreatDoor.T
open Go Go.Pv Go.Proofs.YtknciobaifdafaaGreatDoor.EF
structure GrpS where
  n : Nat
  own : Int
  out : List Wt
theorem zJ (d : Dk) (turn : Int) (place : Nat) (above : Int) (hc : d.cells.length = 42) (hs : ∀ k, (d.cells.getD k ByteArray.empty).size ≤ 1000000) (ht : -1 ≤ turn ∧ turn ≤ 1000000000) (hp : place ≤ 20) :
    Ok Tryz.prog 127 [vDk d, vI turn, vI place, vI above] (.tup [vI (aY (gOf d.cells turn) above (20 - place) place 0 []).1, vI (aY (gOf d.cells turn) above (20 - place) place 0 []).2.1, vWts (aY (gOf d.cells turn) above (20 - place) place 0 []).2.2]) [] := by
  obtain ⟨g, hg0⟩ : ∃ g, g = gOf d.cells turn := ⟨_, rfl⟩
  have hget : ∀ k : Nat, k ≤ 1000 → Ok Tryz.prog 160 [vS (d.cells.getD (22 + (k : Int)).toNat ByteArray.empty), vI turn, vI k] (.tup [vI (g k).1, vB (g k).2.1, vWt (g k).2.2]) [] := fun k hk => by
    rw [show (22 + (k : Int)).toNat = 22 + k by omega, hg0]
    exact zI _ turn k (hs _) ht (by omega)
  rw [← hg0]
  generalize hR : aY g above (20 - place) place 0 [] = R
  refine stO Tryz.func127 [.tmp 8, .tmp 9, .tmp 10] 58 rfl rfl rfl ?_
  repeat' first | refine sS ?_ | refine sO (fun K' hK' => ?_) | (refine sE hK' ?_; clear hK') | refine sU ?_ ?_ | exact sX | refine yM ?_ | fail
  refine W.loop (fun x : GrpS => ⟨[.any, vI turn, .any, vI above, .ptr 0 0, .any, .any, .any, .any, .any, .any, .ref 1 0 x.out.length, vI x.own, vI x.n, .any, .any, .any, .any, .any, .any, .any, .any, .any, .any, .any, .any, .any, .any, .any, .any, .any, .any, .any, .any, .any, .any, .any, .any, .any, .any, .any, .any, .any, .any, .any, .any, .any, .any, .any, .any, .any, .any, .any, .any, .any, .any, .any, .any], aZ [(0, 33, [.val d.cells.length (d.cells.map vS), .val d.waits.length (d.waits.flatMap cWt), vI d.room, vI d.left]), (1, 77, x.out.flatMap cWt)]⟩)
    (fun x => x.n ≤ 20 ∧ x.out.length ≤ x.n ∧ aY g above (20 - x.n) x.n x.own x.out = R) (fun x => 20 - x.n) ⟨place, 0, []⟩ ?wk0 ⟨hp, Nat.zero_le _, hR⟩ (fun x hx => ?_)
  case wk0 => exact kp [⟨16384, 0, 33, [.val d.cells.length (d.cells.map vS), .val d.waits.length (d.waits.flatMap cWt), vI d.room, vI d.left]⟩, ⟨32768, 1, 77, []⟩]
  obtain ⟨hx1, hx2, hx3⟩ := hx
  repeat' first | refine sS ?_ | refine sN ?_ ?_ | ((with_reducible show uC ..); first | refine uF rfl rfl rfl rfl (mJ _ (by omega)) ?_ | refine uR rfl rfl rfl rfl (hget _ (by omega)) ?_) | refine sO (fun K' hK' => ?_) | refine sY ?_ | (refine sI (fun hg => ?_) (fun hg K' hK' => ?_) <;> try exact sZ hg) | refine yA (fun K' hA' => ?_) | ((with_reducible show W _ _ (.region 6 _ _) _ _); refine sV 16 ?_) | (refine sE hK' ?_; clear hK') | (refine sE hA' ?_; clear hA') | (refine sD (fun hc => ?_) (fun hc => ?_) <;> try exact sZ hc) | refine sU ?_ ?_ | exact sX | refine yM ?_ | fail
  all_goals try have hstep : 20 - x.n = (19 - x.n) + 1 := by omega
  all_goals first
    | (rw [hstep, aY, if_pos (by omega)] at hx3; subst hx3; exact Weak.flat rfl (by simp [All2, vw, vwA, vwC, ax]))
    | (rw [hstep, aY, if_neg (by omega), if_pos hc] at hx3
       subst hx3
       have hcat : List.flatMap cWt x.out ++ [vI (g x.n).2.2.cell, vS (g x.n).2.2.text] = (x.out ++ [(g x.n).2.2]).flatMap cWt := by simp
       exact Out.val3 (by simp only [upd]; rfl) (by rw [hcat]; exact bJ) hcat (by simp))
    | (rw [hstep, aY, if_neg (by omega), if_neg (by rw [hc]; decide)] at hx3
       refine Rnd.normal ⟨x.n + 1, (g x.n).1, x.out ++ [(g x.n).2.2]⟩ ⟨by dsimp only; omega, by simp; omega, ?_⟩ (by dsimp only; omega) ?_
       · dsimp only; rw [show 20 - (x.n + 1) = 19 - x.n by omega]; exact hx3
       · rw [af (x := (x.n : Int) + 1) (by omega) (by omega)]
         exact kp [⟨0, 0, 33, [.val d.cells.length (d.cells.map vS), .val d.waits.length (d.waits.flatMap cWt), vI d.room, vI d.left]⟩, ⟨180272, 1, 77, ((x.out ++ [(g x.n).2.2]).flatMap cWt)⟩])
    | (rw [show 20 - x.n = 0 by omega, aY] at hx3; subst hx3; exact Weak.flat rfl (by simp [All2, vw, vwA, vwC, ax]))
end Go.Proofs.YtknciobaifdafaaGreatDoor.T
set_option linter.unusedVariables false
set_option maxRecDepth 100000
set_option maxHeartbeats 4000000
set_option linter.unusedSimpArgs false
namespace Go.Proofs.YtknciobaifdafaaGreatDoor.T
open Go Go.Pv Go.Proofs.YtknciobaifdafaaGreatDoor.EF
theorem zK (d : Dk) (turn : Int) (hc : d.cells.length = 42) (hs : ∀ k, (d.cells.getD k ByteArray.empty).size ≤ 1000000) (ht : -1 ≤ turn ∧ turn ≤ 1000000000) :
    Ok Tryz.prog 129 [vDk d, vI turn] (vI (trL (gOf d.cells turn) 20)) [] := by
  obtain ⟨g, hg0⟩ : ∃ g, g = gOf d.cells turn := ⟨_, rfl⟩
  have hget : ∀ k : Nat, k ≤ 1000 → Ok Tryz.prog 160 [vS (d.cells.getD (22 + (k : Int)).toNat ByteArray.empty), vI turn, vI k] (.tup [vI (g k).1, vB (g k).2.1, vWt (g k).2.2]) [] := fun k hk => by
    rw [show (22 + (k : Int)).toNat = 22 + k by omega, hg0]
    exact zI _ turn k (hs _) ht (by omega)
  rw [← hg0]
  refine stO Tryz.func129 [.tmp 4] 31 rfl rfl rfl ?_
  repeat' first | refine sS ?_ | refine sO (fun K' hK' => ?_) | (refine sE hK' ?_; clear hK') | refine yM ?_ | fail
  refine W.loop (fun n : Nat => ⟨[.any, vI turn, .ptr 0 0, .any, .any, vI (trL g n), vI n, .any, .any, .any, .any, .any, .any, .any, .any, .any, .any, .any, .any, .any, .any, .any, .any, .any, .any, .any, .any, .any, .any, .any, .any], aZ [(0, 33, [.val d.cells.length (d.cells.map vS), .val d.waits.length (d.waits.flatMap cWt), vI d.room, vI d.left])]⟩)
    (fun n => n ≤ 20) (fun n => 20 - n) 0 ?wk0 (Nat.zero_le _) (fun n hn => ?_)
  case wk0 => dsimp only [trL]; exact kp [⟨16384, 0, 33, [.val d.cells.length (d.cells.map vS), .val d.waits.length (d.waits.flatMap cWt), vI d.room, vI d.left]⟩]
  repeat' first | refine sS ?_ | refine sN ?_ ?_ | ((with_reducible show aC ..); refine cF rfl rfl rfl rfl (uy _ _) ?_) | ((with_reducible show uC ..); first | refine uF rfl rfl rfl rfl (mJ _ (by omega)) ?_ | refine uR rfl rfl rfl rfl (hget _ (by omega)) ?_) | refine sO (fun K' hK' => ?_) | refine yA (fun K' hA' => ?_) | ((with_reducible show W _ _ (.region 5 _ _) _ _); refine sV 16 ?_) | (refine sE hK' ?_; clear hK') | (refine sE hA' ?_; clear hA') | (refine sD (fun hc => ?_) (fun hc => ?_) <;> try exact sZ hc) | refine sU ?_ ?_ | exact sX | refine yM ?_ | fail
  · refine Rnd.normal (n + 1) (by omega) (by omega) ?_
    rw [af (x := (n : Int) + 1) (by omega) (by omega), show max (trL g n) (g n).1 = trL g (n + 1) from rfl]
    exact kp [⟨0, 0, 33, [.val d.cells.length (d.cells.map vS), .val d.waits.length (d.waits.flatMap cWt), vI d.room, vI d.left]⟩]
  · exact Out.flat' (by rw [show n = 20 by omega])
theorem zL (d : Dk) (turn : Int) (hc : d.cells.length = 42) (hs : ∀ k, (d.cells.getD k ByteArray.empty).size ≤ 1000000) :
    Ok Tryz.prog 125 [vDk d, vI turn] (vB (dL (lK d.cells turn) 20)) [] := by
  obtain ⟨O, hO⟩ : ∃ O, O = vM d.cells := ⟨_, rfl⟩
  obtain ⟨G, hG⟩ : ∃ G : Nat → Int × Bool × Wt, G = fun n => fK (d.cells.getD (22 + n) ByteArray.empty) (O n) n := ⟨_, rfl⟩
  have hO1 : ∀ k, -1 ≤ O k ∧ O k ≤ 999999999 := fun k => by rw [hO]; exact OA _
  have hcut : ∀ k : Nat, Ok Tryz.prog 159 [vS (d.cells.getD (22 + (k : Int)).toNat ByteArray.empty), .b (.int .u8 32), vI 1] (.val (cutL (d.cells.getD (22 + k) ByteArray.empty) 32 1).length ((cutL (d.cells.getD (22 + k) ByteArray.empty) 32 1).map vS)) [] := fun k => by
    rw [show (22 + (k : Int)).toNat = 22 + k by omega]
    exact vV _ 32 1 (hs _) (by omega)
  have hp : ∀ k, 0 < (cutL (d.cells.getD (22 + k) ByteArray.empty) 32 1).length := fun k => zq ..
  have hnum : ∀ k, Ok Tryz.prog 158 [vS ((cutL (d.cells.getD (22 + k) ByteArray.empty) 32 1).getD 0 ByteArray.empty)] (vI (O k)) [] := fun k => by
    rw [hO]
    exact zF _ (Nat.le_trans (qU ..) (Nat.le_trans (hs _) (by decide)))
  have hget : ∀ k : Nat, k ≤ 1000 → Ok Tryz.prog 160 [vS (d.cells.getD (22 + (k : Int)).toNat ByteArray.empty), vI (O k), vI k] (.tup [vI (G k).1, vB (G k).2.1, vWt (G k).2.2]) [] := fun k hk => by
    rw [show (22 + (k : Int)).toNat = 22 + k by omega, hG]
    exact zI _ _ k (hs _) (by have := hO1 k; omega) (by omega)
  obtain ⟨f, hf⟩ : ∃ f : Nat → Bool, f = lK d.cells turn := ⟨_, rfl⟩
  have hf1 : ∀ k, f k = decide (0 < (G k).1 ∧ turn < O k ∧ O k ≤ 99999) := fun k => by rw [hf, hG, hO]; rfl
  rw [← hf]
  refine stO Tryz.func125 [.tmp 4] 45 rfl rfl rfl ?_
  repeat' first | refine sS ?_ | refine sO (fun K' hK' => ?_) | (refine sE hK' ?_; clear hK') | refine yM ?_ | fail
  refine W.loop (fun n : Nat => ⟨[.any, vI turn, .ptr 0 0, .any, .any, vI n, .any, .any, .any, .any, .any, .any, .any, .any, .any, .any, .any, .any, .any, .any, .any, .any, .any, .any, .any, .any, .any, .any, .any, .any, .any, .any, .any, .any, .any, .any, .any, .any, .any, .any, .any, .any, .any, .any, .any], aZ [(0, 33, [.val d.cells.length (d.cells.map vS), .val d.waits.length (d.waits.flatMap cWt), vI d.room, vI d.left])]⟩)
    (fun n => n ≤ 20 ∧ dL f n = false) (fun n => 20 - n) 0 ?wk0 ⟨Nat.zero_le _, rfl⟩ (fun n hn => ?_)
  case wk0 => exact kp [⟨16384, 0, 33, [.val d.cells.length (d.cells.map vS), .val d.waits.length (d.waits.flatMap cWt), vI d.room, vI d.left]⟩]
  obtain ⟨hn, hn2⟩ := hn
  have hpn := hp n
  repeat' first | refine sS ?_ | refine sN ?_ ?_ | ((with_reducible show aC ..); refine cF rfl rfl rfl rfl (hnum n) ?_) | ((with_reducible show uC ..); refine uF rfl rfl rfl rfl (mJ _ (by omega)) ?_) | ((with_reducible show aC ..); first | refine cR rfl rfl rfl rfl (hcut n) ?_ | refine cR rfl rfl rfl rfl (hget n (by omega)) ?_) | refine sO (fun K' hK' => ?_) | refine sY ?_ | (refine sI (fun hg => ?_) (fun hg K' hK' => ?_) <;> try exact sZ hg) | refine yA (fun K' hA' => ?_) | ((with_reducible show W _ _ (.region 4 _ _) _ _); refine sV 7 ?_) | (refine sE hK' ?_; clear hK') | (refine sE hA' ?_; clear hA') | (refine sD (fun hc => ?_) (fun hc => ?_) <;> try exact sZ hc) | refine sU ?_ ?_ | exact sX | refine yM ?_ | fail
  all_goals first
    | (refine Rnd.normal (n + 1) ⟨by omega, ?_⟩ (by omega) ?_
       · unfold dL; rw [hn2, hf1, Bool.false_or, decide_eq_false_iff_not]; omega
       · rw [af (x := (n : Int) + 1) (by omega) (by omega)]
         exact kp [⟨0, 0, 33, [.val d.cells.length (d.cells.map vS), .val d.waits.length (d.waits.flatMap cWt), vI d.room, vI d.left]⟩])
    | exact Out.flat' (by rw [kJ (n := 20) (k := n) (by omega) (by rw [hf1, decide_eq_true_iff]; omega)])
    | exact Out.flat' (by rw [show n = 20 by omega] at hn2; rw [hn2])
end Go.Proofs.YtknciobaifdafaaGreatDoor.T
set_option linter.unusedVariables false
set_option maxRecDepth 100000
set_option maxHeartbeats 4000000
set_option linter.unusedSimpArgs false
namespace Go.Proofs.YtknciobaifdafaaGreatDoor.T
open Go Go.Pv Go.Proofs.YtknciobaifdafaaGreatDoor.EF
theorem F8 (l : List ByteArray) (ws : List Wt) (hl : l.length = 20) (hw : ∀ k, k < ws.length → 0 ≤ (ws.getD k wt0).cell ∧ (ws.getD k wt0).cell ≤ 19) (hn : ws.length ≤ 1000) :
    Ok Tryz.prog 128 [.val l.length (l.map vS), vWts ws] (.val (aj l ws).length ((aj l ws).map vS)) [] := by
  refine stO Tryz.func128 [.tmp 4] 29 rfl rfl rfl ?_
  repeat' first | refine sS ?_ | refine sO (fun K' hK' => ?_) | (refine sE hK' ?_; clear hK') | refine sU ?_ ?_ | exact sX | (simp only [go_sem, Nat.reduceAdd, Nat.reduceMul, Nat.reduceEqDiff, Nat.reduceLT, Nat.reduceLeDiff]; (all_goals fail_if_success show False)) | fail
  refine W.loop (fun i : Nat => ⟨[.any, vWts ws, .any, .any, .any, .ref 0 0 l.length, vI i, .any, .any, .any, .any, .any, .any, .any, .any, .any, .any, .any, .any, .any, .any, .any, .any, .any, .any, .any, .any, .any, .any], aZ [(0, 9, (aj l (ws.take i)).map vS)]⟩)
    (fun i => i ≤ ws.length ∧ (aj l (ws.take i)).length = l.length) (fun i => ws.length - i) 0 ?wk0 ⟨Nat.zero_le _, rfl⟩ (fun i hi => ?_)
  case wk0 => exact kp [⟨32800, 0, 9, (l.map vS)⟩]
  obtain ⟨hi, hlen⟩ := hi
  have hwi := hw i
  repeat' first | refine sS ?_ | (with_reducible refine vN ?_ ?_) | (with_reducible refine qX ?_ ?_) | refine sO (fun K' hK' => ?_) | refine yA (fun K' hA' => ?_) | ((with_reducible show W _ _ (.region 5 _ _) _ _); refine sV 12 ?_) | (refine sE hK' ?_; clear hK') | (refine sE hA' ?_; clear hA') | (refine sD (fun hc => ?_) (fun hc => ?_) <;> try exact sZ hc) | refine sU ?_ ?_ | exact sX | ((with_reducible first | refine En.ret ?_ | refine En.normal ?_); simp only [go_sem]) | (simp only [go_sem]; (all_goals fail_if_success show False)) | fail
  · have hs : aj l (ws.take (i + 1)) = (aj l (ws.take i)).set (ws.getD i wt0).cell.toNat (ws.getD i wt0).text := by
      unfold aj
      rw [List.take_add_one, List.getElem?_eq_getElem (by omega : i < ws.length), List.foldl_append, List.getD_eq_getElem?_getD, List.getElem?_eq_getElem (by omega : i < ws.length)]
      rfl
    refine Rnd.normal (i + 1) ⟨by omega, by rw [hs, List.length_set]; exact hlen⟩ (by omega) ?_
    rw [af (x := (i : Int) + 1) (by omega) (by omega), hs]
    exact kp [⟨0, 0, 9, (((aj l (ws.take i)).set (ws.getD i wt0).cell.toNat (ws.getD i wt0).text).map vS)⟩]
  · rw [show ws.take i = ws from List.take_of_length_le (by omega)] at *
    exact Out.val (by simp only [upd]; rfl) bn rfl hlen.symm
theorem Ip (a b : List ByteArray) (ha : a.length ≤ 2000000) (hb : b.length ≤ 2000000) :
    Ok Tryz.prog 94 [.val a.length (a.map vS), .val b.length (b.map vS)] (vB (decide (a = b))) [] := by
  have ht : ∀ i, i < a.length → a.length = b.length → (a.getD i ByteArray.empty ≠ b.getD i ByteArray.empty) → a ≠ b := fun i h1 h2 h3 e => h3 (by rw [e])
  refine stO Tryz.func94 [.tmp 4] 26 rfl rfl rfl ?_
  repeat' first | refine sS ?_ | refine sO (fun K' hK' => ?_) | (refine sE hK' ?_; clear hK') | (refine sD (fun hc => ?_) (fun hc => ?_) <;> try exact sZ hc) | ((with_reducible first | refine En.ret ?_ | refine En.normal ?_); simp only [go_sem]) | (simp only [go_sem]; (all_goals fail_if_success show False)) | fail
  · exact Out.flat' (by rw [decide_eq_false (fun e => hc (by rw [e]))])
  refine W.loop (fun i : Nat => ⟨[.val a.length (a.map vS), .val b.length (b.map vS), .any, .any, .any, vI i, .any, .any, .any, .any, .any, .any, .any, .any, .any, .any, .any, .any, .any, .any, .any, .any, .any, .any, .any, .any], bM⟩) (fun i => i ≤ a.length ∧ ∀ k, k < i → a.getD k ByteArray.empty = b.getD k ByteArray.empty) (fun i => a.length - i) 0 ?wk0 ⟨Nat.zero_le _, fun k hk => absurd hk (Nat.not_lt_zero _)⟩ (fun i hi => ?_)
  case wk0 => exact kp []
  obtain ⟨hi, hall⟩ := hi
  repeat' first | refine sS ?_ | refine sN ?_ ?_ | refine sO (fun K' hK' => ?_) | refine yA (fun K' hA' => ?_) | ((with_reducible show W _ _ (.region 6 _ _) _ _); refine sV 9 ?_) | (refine sE hK' ?_; clear hK') | (refine sE hA' ?_; clear hA') | (refine sD (fun hc => ?_) (fun hc => ?_) <;> try exact sZ hc) | refine sU ?_ ?_ | exact sX | ((with_reducible first | refine En.ret ?_ | refine En.normal ?_); simp only [go_sem]) | (simp only [go_sem]; (all_goals fail_if_success show False)) | fail
  · exact Out.flat' (by rw [decide_eq_false (fun e => hc (by rw [e]))])
  · refine Rnd.normal (i + 1) ⟨by omega, fun k hk => ?_⟩ (by omega) ?_
    · by_cases e : k = i
      · rw [e]; exact hc
      · exact hall k (by omega)
    · rw [af (x := (i : Int) + 1) (by omega) (by omega)]
      exact kp []
  · refine Out.flat' ?_
    rw [decide_eq_true]
    refine List.ext_getElem (by omega) fun k h1 h2 => ?_
    have := hall k (by omega)
    rwa [← jB h1, ← jB h2] at this
end Go.Proofs.YtknciobaifdafaaGreatDoor.T
set_option linter.unusedVariables false
set_option maxRecDepth 100000
set_option maxHeartbeats 4000000
set_option linter.unusedSimpArgs false
namespace Go.Proofs.YtknciobaifdafaaGreatDoor.T
open Go Go.Pv Go.Proofs.YtknciobaifdafaaGreatDoor.EF
theorem vW {d : Dk} (h : ¬ (d.cells.length = 42 ∧ d.waits.length ≤ 100 ∧ -1 ≤ d.room ∧ -1 ≤ d.left)) : dkOk d = false := by
  unfold dkOk; rw [decide_eq_false h]; rfl
theorem fV {α : Type} {l : List α} {k : Nat} {d : α} (h : k < l.length) : l.getD k d ∈ l := by
  rw [List.getD_eq_getElem?_getD, List.getElem?_eq_getElem h]; exact List.getElem_mem h
theorem F9 {α : Type} {l : List α} {p : α → Bool} {d : α} (h : ∀ k, k < l.length → p (l.getD k d) = true) : l.all p = true := by
  rw [List.all_eq_true]
  intro x hx
  obtain ⟨k, hk, rfl⟩ := List.getElem_of_mem hx
  have := h k hk
  rwa [List.getD_eq_getElem?_getD, List.getElem?_eq_getElem hk] at this
theorem Kz {d : Dk} {k : Nat} (hk : k < d.cells.length) (h : 1200 < (d.cells.getD k ByteArray.empty).size) : dkOk d = false := by
  unfold dkOk
  have : d.cells.all (fun s => decide (s.size ≤ 1200)) = false := by
    rw [Bool.eq_false_iff]
    intro e
    have := of_decide_eq_true (List.all_eq_true.1 e _ (fV (d := ByteArray.empty) hk))
    omega
  rw [this, Bool.and_false, Bool.false_and]
theorem KA {d : Dk} {k : Nat} (hk : k < d.waits.length) (h : wtOk (d.waits.getD k wt0) = false) : dkOk d = false := by
  unfold dkOk
  have : d.waits.all wtOk = false := by
    rw [Bool.eq_false_iff]
    intro e
    have := List.all_eq_true.1 e _ (fV (d := wt0) hk)
    rw [h] at this
    cases this
  rw [this, Bool.and_false]
theorem ML {d : Dk} (h : d.cells.length = 42 ∧ d.waits.length ≤ 100 ∧ -1 ≤ d.room ∧ -1 ≤ d.left) (h1 : ∀ k, k < d.cells.length → (d.cells.getD k ByteArray.empty).size ≤ 1200) (h2 : ∀ k, k < d.waits.length → wtOk (d.waits.getD k wt0) = true) : dkOk d = true := by
  unfold dkOk
  rw [decide_eq_true h, F9 (d := wt0) h2, F9 (d := ByteArray.empty) (fun k hk => decide_eq_true (h1 k hk))]
  rfl
theorem yJ (d : Dk) (h1 : d.cells.length ≤ 1000000000) (h2 : d.waits.length ≤ 1000000000) : Ok Tryz.prog 80 [vDk d] (vB (dkOk d)) [] := by
  refine stO Tryz.func80 [.tmp 2] 53 rfl rfl rfl ?_
  repeat' first | refine sS ?_ | refine sO (fun K' hK' => ?_) | refine sY ?_ | (refine sI (fun hg => ?_) (fun hg K' hK' => ?_) <;> try exact sZ hg) | (refine sE hK' ?_; clear hK') | (refine sD (fun hc => ?_) (fun hc => ?_) <;> try exact sZ hc) | ((with_reducible first | refine En.ret ?_ | refine En.normal ?_); simp only [go_sem]) | (simp only [go_sem, Nat.reduceAdd, Nat.reduceMul, Nat.reduceLT]; (all_goals fail_if_success show False)) | fail
  · exact Out.flat' (by rw [vW (by omega)])
  · exact Out.flat' (by rw [vW (by omega)])
  · exact Out.flat' (by rw [vW (by omega)])
  · exact Out.flat' (by rw [vW (by omega)])
  refine W.loop (fun i : Nat => ⟨[.any, .ptr 0 0, .any, vI i, .any, .any, .any, .any, .any, .any, .any, .any, .any, .any, .any, .any, .any, .any, .any, .any, .any, .any, .any, .any, .any, .any, .any, .any, .any, .any, .any, .any, .any, .any, .any, .any, .any, .any, .any, .any, .any, .any, .any, .any, .any, .any, .any, .any, .any, .any, .any, .any, .any], aZ [(0, 33, [.val d.cells.length (d.cells.map vS), .val d.waits.length (d.waits.flatMap cWt), vI d.room, vI d.left])]⟩) (fun i => i ≤ d.cells.length ∧ ∀ k, k < i → (d.cells.getD k ByteArray.empty).size ≤ 1200) (fun i => d.cells.length - i) 0 ?wk0 ⟨Nat.zero_le _, fun k hk => absurd hk (Nat.not_lt_zero _)⟩ (fun i hi => ?_)
  case wk0 => exact kp [⟨16384, 0, 33, [.val d.cells.length (d.cells.map vS), .val d.waits.length (d.waits.flatMap cWt), vI d.room, vI d.left]⟩]
  obtain ⟨hi, hall⟩ := hi
  repeat' first | refine sS ?_ | refine sN ?_ ?_ | refine sO (fun K' hK' => ?_) | (refine sE hK' ?_; clear hK') | (refine sD (fun hc => ?_) (fun hc => ?_) <;> try exact sZ hc) | refine sU ?_ ?_ | exact sX | ((with_reducible first | refine En.ret ?_ | refine En.normal ?_); simp only [go_sem]) | (simp only [go_sem, Nat.reduceAdd, Nat.reduceLT]; (all_goals fail_if_success show False)) | fail
  · exact Out.flat' (by rw [Kz (k := i) (by omega) (by omega)])
  · refine Rnd.normal (i + 1) ⟨by omega, fun k hk => ?_⟩ (by omega) ?_
    · by_cases e : k = i
      · rw [e]; omega
      · exact hall k (by omega)
    · rw [af (x := (i : Int) + 1) (by omega) (by omega)]
      exact kp [⟨0, 0, 33, [.val d.cells.length (d.cells.map vS), .val d.waits.length (d.waits.flatMap cWt), vI d.room, vI d.left]⟩]
  refine W.loop (fun i : Nat => ⟨[.any, .ptr 0 0, .any, .any, vI i, .any, .any, .any, .any, .any, .any, .any, .any, .any, .any, .any, .any, .any, .any, .any, .any, .any, .any, .any, .any, .any, .any, .any, .any, .any, .any, .any, .any, .any, .any, .any, .any, .any, .any, .any, .any, .any, .any, .any, .any, .any, .any, .any, .any, .any, .any, .any, .any], aZ [(0, 33, [.val d.cells.length (d.cells.map vS), .val d.waits.length (d.waits.flatMap cWt), vI d.room, vI d.left])]⟩) (fun i => i ≤ d.waits.length ∧ ∀ k, k < i → wtOk (d.waits.getD k wt0) = true) (fun i => d.waits.length - i) 0 ?wk1 ⟨Nat.zero_le _, fun k hk => absurd hk (Nat.not_lt_zero _)⟩ (fun j hj => ?_)
  case wk1 => exact kp [⟨0, 0, 33, [.val d.cells.length (d.cells.map vS), .val d.waits.length (d.waits.flatMap cWt), vI d.room, vI d.left]⟩]
  obtain ⟨hj, hallw⟩ := hj
  by_cases hjl : j < d.waits.length
  · have hd := dG hjl
    obtain ⟨B, hB⟩ : ∃ B, B = wtOk (d.waits.getD j wt0) := ⟨_, rfl⟩
    have hwt : Ok Tryz.prog 122 [.agg [vI (d.waits.getD j wt0).cell, vS (d.waits.getD j wt0).text]] (vB B) [] := hB ▸ xy (d.waits.getD j wt0)
    repeat' first | refine sS ?_ | ((with_reducible show aC ..); refine cF rfl rfl rfl rfl hwt ?_) | refine sO (fun K' hK' => ?_) | (refine sE hK' ?_; clear hK') | (refine sD (fun hc => ?_) (fun hc => ?_) <;> try exact sZ hc) | refine sU ?_ ?_ | exact sX | ((with_reducible first | refine En.ret ?_ | refine En.normal ?_); simp only [go_sem]) | (simp only [go_sem, Nat.reduceAdd, Nat.reduceLT, Nat.reduceLeDiff, hd, List.take_succ_cons, List.take_zero, List.length_cons]; (all_goals fail_if_success show False)) | fail
    · exact Out.flat' (by rw [KA hjl (by rw [← hB]; simpa using hc)])
    · refine Rnd.normal (j + 1) ⟨by omega, fun k hk => ?_⟩ (by omega) ?_
      · by_cases e : k = j
        · rw [e, ← hB]; simpa using hc
        · exact hallw k (by omega)
      · rw [af (x := (j : Int) + 1) (by omega) (by omega)]
        exact kp [⟨0, 0, 33, [.val d.cells.length (d.cells.map vS), .val d.waits.length (d.waits.flatMap cWt), vI d.room, vI d.left]⟩]
  · repeat' first | refine sS ?_ | refine sO (fun K' hK' => ?_) | (refine sE hK' ?_; clear hK') | (refine sD (fun hc => ?_) (fun hc => ?_) <;> try exact sZ hc) | ((with_reducible first | refine En.ret ?_ | refine En.normal ?_); simp only [go_sem]) | (simp only [go_sem, Nat.reduceAdd, Nat.reduceLT]; (all_goals fail_if_success show False)) | fail
    exact Out.flat' (by rw [ML (by omega) (fun k hk => hall k (by omega)) (fun k hk => hallw k (by omega))])
theorem ig (d : Dk) (h1 : d.cells.length ≤ 2000000) (h2 : d.waits.length ≤ 2000000) : Ok Tryz.prog 95 [vDk d] (.agg [.ref 0 0 d.cells.length, .ref 1 0 d.waits.length, vI d.room, vI d.left]) [(9, d.cells.map vS), (110, d.waits.flatMap cWt)] := by
  refine stO Tryz.func95 [.cell 2 33] 16 rfl rfl rfl ?_
  repeat' first | refine sS ?_ | refine sO (fun K' hK' => ?_) | (refine sE hK' ?_; clear hK') | refine sU ?_ ?_ | exact sX | ((with_reducible first | refine En.ret ?_ | refine En.normal ?_); simp only [go_sem, Nat.reduceAdd, Nat.reduceEqDiff, Nat.reduceLT, Nat.reduceLeDiff]) | (simp only [go_sem, Nat.reduceAdd, Nat.reduceMul, Nat.reduceEqDiff, Nat.reduceLT, Nat.reduceLeDiff]; (all_goals fail_if_success show False)) | fail
  exact kp [⟨49200, 0, 9, (d.cells.map vS)⟩, ⟨65584, 1, 110, (d.waits.flatMap cWt)⟩]
end Go.Proofs.YtknciobaifdafaaGreatDoor.T
set_option linter.unusedVariables false
set_option maxRecDepth 100000
set_option maxHeartbeats 4000000
set_option linter.unusedSimpArgs false
namespace Go.Proofs.YtknciobaifdafaaGreatDoor.T
open Go Go.Pv Go.Proofs.YtknciobaifdafaaGreatDoor.EF
structure RdS where
  next : Nat
  above : Int
  pages : List ByteArray
  fuel : Nat
theorem vX {c : List ByteArray} {i : Nat} (h : 2 + i < c.length) : (c.drop 2).take (i + 1) = (c.drop 2).take i ++ [c.getD (2 + i) ByteArray.empty] := by
  rw [List.take_add_one, List.getElem?_drop, List.getElem?_eq_getElem h, List.getD_eq_getElem?_getD, List.getElem?_eq_getElem h]
  rfl
theorem CE (d : Dk) (hd : dkOk d = true) : Ok Tryz.prog 81 [vDk d] (.tup [aN (dN d).1, vB (dN d).2]) [] := by
  obtain ⟨hlen, hwl, hroom, hleft⟩ : d.cells.length = 42 ∧ d.waits.length ≤ 100 ∧ -1 ≤ d.room ∧ -1 ≤ d.left := by
    unfold dkOk at hd; simp only [Bool.and_eq_true, decide_eq_true_eq] at hd; exact hd.1.1
  have hs : ∀ k, (d.cells.getD k ByteArray.empty).size ≤ 1000000 := fun k => by
    rcases Nat.lt_or_ge k d.cells.length with h | h
    · unfold dkOk at hd; simp only [Bool.and_eq_true, List.all_eq_true] at hd
      have := of_decide_eq_true (hd.1.2 _ (fV (d := ByteArray.empty) h))
      omega
    · rw [List.getD_eq_getElem?_getD, List.getElem?_eq_none h]; exact Nat.zero_le _
  have ht0 := ry (d.cells.getD 0 ByteArray.empty) 0 (hs 0)
  have ht1 := ry (d.cells.getD 1 ByteArray.empty) 1 (hs 1)
  have hr0 : 0 ≤ aA (d.cells.getD 0 ByteArray.empty) 0 ∧ aA (d.cells.getD 0 ByteArray.empty) 0 ≤ 99999 := je _ _
  have hr1 : 0 ≤ aA (d.cells.getD 1 ByteArray.empty) 1 ∧ aA (d.cells.getD 1 ByteArray.empty) 1 ≤ 99999 := je _ _
  unfold dN
  generalize aA (d.cells.getD 0 ByteArray.empty) 0 = a at ht0 hr0 ⊢
  generalize aA (d.cells.getD 1 ByteArray.empty) 1 = b at ht1 hr1 ⊢
  have hgr := uy a b
  obtain ⟨turn, htn⟩ : ∃ t, t = max a b := ⟨_, rfl⟩
  have htr : 0 ≤ turn ∧ turn ≤ 99999 := by omega
  rw [← htn] at hgr ⊢
  obtain ⟨late, hla⟩ : ∃ x, x = dL (lK d.cells turn) 20 := ⟨_, rfl⟩
  have hlate : Ok Tryz.prog 125 [vDk d, vI turn] (vB late) [] := hla ▸ zL d turn hlen hs
  unfold iC
  rw [← hla]
  have hcopy := ig d (by omega) (by omega)
  have hcl := BP d.cells turn
  have hgt := o5 d.cells turn
  have hgrp0 := fun next above h => zJ d turn next above hlen hs (by omega) h
  have htried := zK d turn hlen hs (by omega)
  generalize gOf d.cells turn = g at hcl hgt hgrp0 htried ⊢
  obtain ⟨G, hG⟩ : ∃ G : Nat → Int → Int × Int × List Wt, ∀ next above, G next above = aY g above (20 - next) next 0 [] := ⟨fun next above => aY g above (20 - next) next 0 [], fun _ _ => rfl⟩
  have hgrp : ∀ (next : Nat) (above : Int), next ≤ 20 → Ok Tryz.prog 127 [vDk d, vI turn, vI next, vI above] (.tup [vI (G next above).1, vI (G next above).2.1, vWts (G next above).2.2]) [] := fun next above h => by rw [hG]; exact hgrp0 next above h
  have hG1 : ∀ (next : Nat) (above : Int), next ≤ 20 → 0 ≤ (G next above).1 ∧ next + (G next above).1 ≤ 20 ∧ ((G next above).2.2.length : Int) = (G next above).1 := fun next above h => by
    rw [hG]
    have := lw (g := g) (above := above) (20 - next) next 0 []
    simp only [List.length_nil] at this
    omega
  have hG2 : ∀ (next : Nat) (above : Int) (k : Nat), k < (G next above).2.2.length → 0 ≤ ((G next above).2.2.getD k wt0).cell ∧ ((G next above).2.2.getD k wt0).cell ≤ 19 := fun next above k hk => by
    have := xU (above := above) hcl (20 - next) next 0 [] (by simp)
    rw [← hG] at this
    exact this _ (fV hk)
  obtain ⟨T, hT⟩ : ∃ T, T = trL g 20 := ⟨_, rfl⟩
  rw [← hT] at htried ⊢
  generalize hR : rdGo g 21 0 0 (ay d.cells) = R
  refine stO Tryz.func81 [.cell 2 35, .tmp 3] 95 rfl rfl rfl ?_
  repeat' first | refine sS ?_ | refine sN ?_ ?_ | ((with_reducible show aC ..); refine cF rfl rfl rfl rfl hlate ?_) | ((with_reducible show uC ..); first | refine uF rfl rfl rfl rfl ht0 ?_ | refine uF rfl rfl rfl rfl ht1 ?_ | refine uF rfl rfl rfl rfl hgr ?_) | ((with_reducible show aC ..); refine cR rfl rfl rfl rfl hcopy ?_) | refine sO (fun K' hK' => ?_) | refine sY ?_ | (refine sI (fun hg => ?_) (fun hg K' hK' => ?_) <;> try exact sZ hg) | refine yA (fun K' hA' => ?_) | ((with_reducible show W _ _ (.region 1 _ _) _ _); refine sV 12 ?_) | (refine sE hK' ?_; clear hK') | (refine sE hA' ?_; clear hA') | (refine sD (fun hc => ?_) (fun hc => ?_) <;> try exact sZ hc) | refine sU ?_ ?_ | exact sX | ((with_reducible first | refine En.ret ?_ | refine En.normal ?_); simp only [go_sem, Nat.reduceAdd, Nat.reduceEqDiff, Nat.reduceLT, Nat.reduceLeDiff, bU]) | (simp only [go_sem, Nat.reduceAdd, Nat.reduceMul, Nat.reduceEqDiff, Nat.reduceLT, Nat.reduceLeDiff, Int.reduceToNat, bU]; (all_goals fail_if_success show False)) | fail
  · rw [if_pos (.inl hg)]; exact kp []
  · rw [if_pos (.inr hc)]; exact kp []
  refine W.loop (fun i : Nat => ⟨[.any, .ptr 0 0, .ptr 1 0, vB false, vI turn, .ptr 2 0, vI i, .any, .any, .any, .any, .any, .any, .any, .any, .any, .any, .any, .any, .any, .any, .any, .any, .any, .any, .any, .any, .any, .any, .any, .any, .any, .any, .any, .any, .any, .any, .any, .any, .any, .any, .any, .any, .any, .any, .any, .any, .any, .any, .any, .any, .any, .any, .any, .any, .any, .any, .any, .any, .any, .any, .any, .any, .any, .any, .any, .any, .any, .any, .any, .any, .any, .any, .any, .any, .any, .any, .any, .any, .any, .any, .any, .any, .any, .any, .any, .any, .any, .any, .any, .any, .any, .any, .any, .any], aZ [(0, 33, [.val d.cells.length (d.cells.map vS), .val d.waits.length (d.waits.flatMap cWt), vI d.room, vI d.left]), (1, 35, [.b (.slice none 0 0), .b (.slice none 0 0), vI 0, vI 0, vI 0, vI 0, vI 0, .b (.slice none 0 0)]), (2, 35, [.val d.cells.length (d.cells.map vS), .val d.waits.length (d.waits.flatMap cWt), vI d.room, vI d.left, vI turn, vI 0, vI 0, .ref 3 0 i]), (3, 9, ((d.cells.drop 2).take i).map vS)]⟩) (fun i => i ≤ 20) (fun i => 20 - i) 0 ?wk0 (by omega) (fun i hi => ?_)
  case wk0 =>
    refine Weak.trans (Weak.none (k := 5) (t := 9) (by simp [upd])) ?_
    exact kp [⟨16384, 0, 33, [.val d.cells.length (d.cells.map vS), .val d.waits.length (d.waits.flatMap cWt), vI d.room, vI d.left]⟩, ⟨16400, 1, 35, [.b (.slice none 0 0), .b (.slice none 0 0), vI 0, vI 0, vI 0, vI 0, vI 0, .b (.slice none 0 0)]⟩, ⟨81984, 2, 35, [.val d.cells.length (d.cells.map vS), .val d.waits.length (d.waits.flatMap cWt), vI d.room, vI d.left, vI turn, vI 0, vI 0, .ref 3 0 0]⟩, ⟨5, 3, 9, []⟩]
  have hpl : ((d.cells.drop 2).take i).length = i := by rw [List.length_take, List.length_drop]; omega
  repeat' first | refine sS ?_ | refine sN ?_ ?_ | (with_reducible refine hpl) | ((with_reducible show uC ..); refine uF rfl rfl rfl rfl (lD _ (by omega)) ?_) | ((with_reducible show aC ..); refine cR rfl rfl rfl rfl (hgrp 0 0 (by omega)) ?_) | refine sO (fun K' hK' => ?_) | refine yA (fun K' hA' => ?_) | ((with_reducible show W _ _ (.region 8 _ _) _ _); refine sV 9 ?_) | (refine sE hK' ?_; clear hK') | (refine sE hA' ?_; clear hA') | (refine sD (fun hc => ?_) (fun hc => ?_) <;> try exact sZ hc) | refine sU ?_ ?_ | exact sX | (simp only [go_sem, Nat.reduceAdd, Nat.reduceMul, Nat.reduceEqDiff, Nat.reduceLT, Nat.reduceLeDiff]; (all_goals fail_if_success show False)) | fail
  · have hrow : List.map vS ((d.cells.drop 2).take i) ++ [vS (d.cells.getD (2 + (i : Int)).toNat ByteArray.empty)] = ((d.cells.drop 2).take (i + 1)).map vS := by
      rw [vX (by omega), List.map_append, show (2 + (i : Int)).toNat = 2 + i by omega]; rfl
    refine Rnd.normal (i + 1) (by omega) (by omega) ?_
    rw [af (x := (i : Int) + 1) (by omega) (by omega), hrow]
    exact kp [⟨0, 0, 33, [.val d.cells.length (d.cells.map vS), .val d.waits.length (d.waits.flatMap cWt), vI d.room, vI d.left]⟩, ⟨1, 1, 35, [.b (.slice none 0 0), .b (.slice none 0 0), vI 0, vI 0, vI 0, vI 0, vI 0, .b (.slice none 0 0)]⟩, ⟨2, 2, 35, [.val d.cells.length (d.cells.map vS), .val d.waits.length (d.waits.flatMap cWt), vI d.room, vI d.left, vI turn, vI 0, vI 0, .ref 3 0 (i + 1)]⟩, ⟨147600, 3, 9, (((d.cells.drop 2).take (i + 1)).map vS)⟩]
  obtain rfl : i = 20 := by omega
  have hp20 : (d.cells.drop 2).take 20 = ay d.cells := rfl
  have hpl20 : (ay d.cells).length = 20 := hpl
  rw [hp20]
  refine W.loop (fun x : RdS => ⟨[.any, .ptr 0 0, .ptr 1 0, vB false, vI turn, .ptr 2 0, .any, vI (G x.next x.above).1, vI (G x.next x.above).2.1, vWts (G x.next x.above).2.2, .any, .any, .any, .any, .any, .any, .any, .any, .any, .any, .any, .any, .any, .any, .any, .any, .any, .any, .any, .any, .any, .any, .any, .any, .any, .any, .any, .any, .any, .any, .any, .any, .any, .any, .any, .any, .any, .any, .any, .any, .any, .any, .any, .any, .any, .any, .any, .any, .any, .any, .any, .any, .any, .any, .any, .any, .any, .any, .any, .any, .any, .any, .any, .any, .any, .any, .any, .any, .any, .any, .any, .any, .any, .any, .any, .any, .any, .any, .any, .any, .any, .any, .any, .any, .any], aZ [(0, 33, [.val d.cells.length (d.cells.map vS), .val d.waits.length (d.waits.flatMap cWt), vI d.room, vI d.left]), (1, 35, [.b (.slice none 0 0), .b (.slice none 0 0), vI 0, vI 0, vI 0, vI 0, vI 0, .b (.slice none 0 0)]), (2, 35, [.val d.cells.length (d.cells.map vS), .val d.waits.length (d.waits.flatMap cWt), vI d.room, vI d.left, vI turn, vI 0, vI x.next, .val 20 (x.pages.map vS)])]⟩)
    (fun x => x.next ≤ 20 ∧ x.pages.length = 20 ∧ 21 ≤ x.next + x.fuel ∧ rdGo g x.fuel x.next x.above x.pages = R) (fun x => 20 - x.next) ⟨0, 0, ay d.cells, 21⟩ ?wk1 ⟨Nat.zero_le _, hpl20, Nat.le_refl _, hR⟩ (fun x hx => ?_)
  case wk1 => exact kp [⟨0, 0, 33, [.val d.cells.length (d.cells.map vS), .val d.waits.length (d.waits.flatMap cWt), vI d.room, vI d.left]⟩, ⟨1, 1, 35, [.b (.slice none 0 0), .b (.slice none 0 0), vI 0, vI 0, vI 0, vI 0, vI 0, .b (.slice none 0 0)]⟩, ⟨2, 2, 35, [.val d.cells.length (d.cells.map vS), .val d.waits.length (d.waits.flatMap cWt), vI d.room, vI d.left, vI turn, vI 0, vI 0, .val 20 ((ay d.cells).map vS)]⟩]
  obtain ⟨hx1, hx2, hx3, hx4⟩ := hx
  have hg1 := hG1 x.next x.above hx1
  have hput := F8 x.pages (G x.next x.above).2.2 hx2 (fun k hk => hG2 x.next x.above k hk) (by omega)
  rw [aQ, hx2] at hput
  have hagain : Ok Tryz.prog 127 [vDk d, vI turn, vI (IntKind.i64.wrap ((x.next : Int) + (G x.next x.above).1)), vI (G x.next x.above).2.1] (.tup [vI (G (x.next + (G x.next x.above).1.toNat) (G x.next x.above).2.1).1, vI (G (x.next + (G x.next x.above).1.toNat) (G x.next x.above).2.1).2.1, vWts (G (x.next + (G x.next x.above).1.toNat) (G x.next x.above).2.1).2.2]) [] := by
    rw [af (by omega) (by omega), show (x.next : Int) + (G x.next x.above).1 = ((x.next + (G x.next x.above).1.toNat : Nat) : Int) by omega]
    exact hgrp _ _ (by omega)
  repeat' first | refine sS ?_ | ((with_reducible show aC ..); first | refine cF rfl rfl rfl rfl htried ?_ | refine cR rfl rfl rfl rfl hput ?_ | refine cR rfl rfl rfl rfl hagain ?_) | refine sO (fun K' hK' => ?_) | (refine sE hK' ?_; clear hK') | (refine sD (fun hc => ?_) (fun hc => ?_) <;> try exact sZ hc) | (simp only [go_sem, Nat.reduceAdd, Nat.reduceMul, Nat.reduceEqDiff, Nat.reduceLT, Nat.reduceLeDiff]; (all_goals fail_if_success show False)) | fail
  · obtain ⟨k, hk⟩ : ∃ k, x.fuel = k + 1 := ⟨x.fuel - 1, by omega⟩
    rw [hk, rdGo, ← hG, if_pos hc] at hx4
    refine Rnd.normal ⟨x.next + (G x.next x.above).1.toNat, (G x.next x.above).2.1, aj x.pages (G x.next x.above).2.2, k⟩ ⟨by dsimp only; omega, by dsimp only; rw [aQ]; exact hx2, by dsimp only; omega, hx4⟩ (by dsimp only; omega) ?_
    rw [af (x := (x.next : Int) + (G x.next x.above).1) (by omega) (by omega), show (x.next : Int) + (G x.next x.above).1 = ((x.next + (G x.next x.above).1.toNat : Nat) : Int) by omega]
    exact kp [⟨0, 0, 33, [.val d.cells.length (d.cells.map vS), .val d.waits.length (d.waits.flatMap cWt), vI d.room, vI d.left]⟩, ⟨1, 1, 35, [.b (.slice none 0 0), .b (.slice none 0 0), vI 0, vI 0, vI 0, vI 0, vI 0, .b (.slice none 0 0)]⟩, ⟨2, 2, 35, [.val d.cells.length (d.cells.map vS), .val d.waits.length (d.waits.flatMap cWt), vI d.room, vI d.left, vI turn, vI 0, vI (x.next + (G x.next x.above).1.toNat : Nat), .val 20 ((aj x.pages (G x.next x.above).2.2).map vS)]⟩]
  obtain ⟨k, hk⟩ : ∃ k, x.fuel = k + 1 := ⟨x.fuel - 1, by omega⟩
  rw [hk, rdGo, ← hG, if_neg hc] at hx4
  subst hx4
  refine W.loop (fun i : Nat => ⟨[.any, .any, .ptr 0 0, vB false, .any, .ptr 1 0, .any, .any, .any, .any, vI i, .any, .any, .any, .any, .any, .any, .any, .any, .any, .any, .any, .any, .any, .any, .any, .any, .any, .any, .any, .any, .any, .any, .any, .any, .any, .any, .any, .any, .any, .any, .any, .any, .any, .any, .any, .any, .any, .any, .any, .any, .any, .any, .any, .any, .any, .any, .any, .any, .any, .any, .any, .any, .any, .any, .any, .any, .any, .any, .any, .any, .any, .any, .any, .any, .any, .any, .any, .any, .any, .any, .any, .any, .any, .any, .any, .any, .any, .any, .any, .any, .any, .any, .any, .any], aZ [(0, 35, [.b (.slice none 0 0), .b (.slice none 0 0), vI 0, vI 0, vI 0, vI 0, vI 0, .b (.slice none 0 0)]), (1, 35, [.val d.cells.length (d.cells.map vS), .val d.waits.length (d.waits.flatMap cWt), vI d.room, vI d.left, vI turn, vI T, vI x.next, .val 20 (x.pages.map vS)])]⟩)
    (fun i => i ≤ 20 ∧ dL (fun k => decide (1100 < (x.pages.getD k ByteArray.empty).size)) i = false) (fun i => 20 - i) 0 ?wk2 ⟨by omega, rfl⟩ (fun i hi => ?_)
  case wk2 => exact kp [⟨1, 0, 35, [.b (.slice none 0 0), .b (.slice none 0 0), vI 0, vI 0, vI 0, vI 0, vI 0, .b (.slice none 0 0)]⟩, ⟨2, 1, 35, [.val d.cells.length (d.cells.map vS), .val d.waits.length (d.waits.flatMap cWt), vI d.room, vI d.left, vI turn, vI T, vI x.next, .val 20 (x.pages.map vS)]⟩]
  obtain ⟨hi, hno⟩ := hi
  repeat' first | refine sS ?_ | refine sN ?_ ?_ | refine sO (fun K' hK' => ?_) | (refine sE hK' ?_; clear hK') | (refine sD (fun hc => ?_) (fun hc => ?_) <;> try exact sZ hc) | refine sU ?_ ?_ | exact sX | ((with_reducible first | refine En.ret ?_ | refine En.normal ?_); simp only [go_sem, Nat.reduceAdd, Nat.reduceEqDiff, Nat.reduceLT, Nat.reduceLeDiff]) | (simp only [go_sem, Nat.reduceAdd, Nat.reduceEqDiff, Nat.reduceLT, Nat.reduceLeDiff]; (all_goals fail_if_success show False)) | fail
  · rw [if_neg (by simp_all), if_pos (show gQ x.pages = true from kJ (k := i) (by omega) (decide_eq_true (by omega)))]; exact kp []
  · refine Rnd.normal (i + 1) ⟨by omega, ?_⟩ (by omega) ?_
    · unfold dL; rw [hno, Bool.false_or, decide_eq_false_iff_not]; omega
    · rw [af (x := (i : Int) + 1) (by omega) (by omega)]
      exact kp [⟨0, 0, 35, [.b (.slice none 0 0), .b (.slice none 0 0), vI 0, vI 0, vI 0, vI 0, vI 0, .b (.slice none 0 0)]⟩, ⟨1, 1, 35, [.val d.cells.length (d.cells.map vS), .val d.waits.length (d.waits.flatMap cWt), vI d.room, vI d.left, vI turn, vI T, vI x.next, .val 20 (x.pages.map vS)]⟩]
  · obtain rfl : i = 20 := by omega
    rw [if_neg (by simp_all), if_neg (by unfold gQ; rw [hno]; decide)]
    exact Weak.flat rfl (by simp [All2, vw, vwA, vwC, ax, aU, xn, hx2])
theorem nU (d : Dk) (h1 : d.cells.length ≤ 1000000000) (h2 : d.waits.length ≤ 1000000000) : Ok Tryz.prog 32 [vDk d] (.tup [aN (ai d).1, vB (ai d).2]) [] := by
  have hok := yJ d h1 h2
  have hrd := fun h => CE d h
  unfold ai
  generalize dkOk d = b at hok hrd ⊢
  generalize dN d = r at hrd ⊢
  obtain ⟨⟨⟨c, ws, room, left⟩, turn, tries, next, pages⟩, rb⟩ := r
  refine stO Tryz.func32 [.cell 2 35, .tmp 3] 18 rfl rfl rfl ?_
  repeat' first | refine sS ?_ | ((with_reducible show aC ..); first | refine cF rfl rfl rfl rfl hok ?_ | refine cR rfl rfl rfl rfl (hrd hg) ?_) | refine sO (fun K' hK' => ?_) | refine sY ?_ | (refine sI (fun hg => ?_) (fun hg K' hK' => ?_) <;> try exact sZ hg) | (refine sE hK' ?_; clear hK') | (refine sD (fun hc => ?_) (fun hc => ?_) <;> try exact sZ hc) | ((with_reducible first | refine En.ret ?_ | refine En.normal ?_); simp only [go_sem, Nat.reduceAdd, Nat.reduceMul, Nat.reduceEqDiff, Nat.reduceLT, Nat.reduceLeDiff, bU]) | (simp only [go_sem, Nat.reduceAdd, Nat.reduceMul, Nat.reduceEqDiff, Nat.reduceLT, Nat.reduceLeDiff]; (all_goals fail_if_success show False)) | fail
  · rw [if_neg (by rw [hg]; simp)]; exact kp []
  · rw [if_neg (fun h => by omega)]; exact kp []
  · rw [if_pos ⟨hg, by omega⟩]; exact kp []
theorem vY (s : Stor) (h1 : s.disk.cells.length ≤ 1000000000) (h2 : s.disk.waits.length ≤ 1000000000) (h3 : s.pages.length ≤ 2000000) : Ok Tryz.prog 48 [aN s] (vB (ag s)) [] := by
  have hok := yJ s.disk h1 h2
  have hrd := fun h => CE s.disk h
  have hpg := FB s.disk
  unfold ag
  generalize dkOk s.disk = b at hok hrd ⊢
  generalize dN s.disk = r at hrd hpg ⊢
  obtain ⟨⟨⟨c, ws, room, left⟩, turn, tries, next, pages⟩, rb⟩ := r
  dsimp only at hpg
  have htx := fun h => Ip pages s.pages h h3
  refine stO Tryz.func48 [.tmp 2] 57 rfl rfl rfl ?_
  repeat' first | refine sS ?_ | ((with_reducible show aC ..); first | refine cF rfl rfl rfl rfl hok ?_ | refine cF rfl rfl rfl rfl (pz _ _ _) ?_ | refine cF rfl rfl rfl rfl (htx (by omega)) ?_ | refine cR rfl rfl rfl rfl (hrd (by assumption)) ?_) | refine sO (fun K' hK' => ?_) | refine sY ?_ | (refine sI (fun hg => ?_) (fun hg K' hK' => ?_) <;> try exact sZ hg) | (refine sE hK' ?_; clear hK') | (refine sD (fun hc => ?_) (fun hc => ?_) <;> try exact sZ hc) | ((with_reducible first | refine En.ret ?_ | refine En.normal ?_); simp only [go_sem, Nat.reduceAdd, Nat.reduceMul]) | (simp only [go_sem, Nat.reduceAdd, Nat.reduceMul, Nat.reduceEqDiff, Nat.reduceLT, Nat.reduceLeDiff]; (all_goals fail_if_success show False)) | fail
  all_goals refine Out.flat' (congrArg Value.bool ?_)
  all_goals symm
  all_goals first
    | (rw [decide_eq_false_iff_not]; intro h; omega)
    | (rw [decide_eq_false_iff_not, hg]; simp; done)
    | (rw [decide_eq_false_iff_not]; simp; done)
    | (rw [decide_eq_decide]; exact ⟨fun h => h.2.2.2.2.2.2.2, fun h => ⟨by assumption, by omega, by omega, by omega, by omega, by omega, by omega, h⟩⟩)
theorem Gf (s : Stor) (h1 : s.disk.cells.length ≤ 1000000000) (h2 : s.disk.waits.length ≤ 1000000000) (h3 : s.pages.length ≤ 2000000) : Ok Tryz.prog 28 [aN s] (vB (ag s)) [] := by
  have hok := vY s h1 h2 h3
  refine stO Tryz.func28 [.tmp 2] 5 rfl rfl rfl ?_
  repeat' first | refine sS ?_ | ((with_reducible show aC ..); refine cF rfl rfl rfl rfl hok ?_) | refine sO (fun K' hK' => ?_) | (refine sE hK' ?_; clear hK') | ((with_reducible first | refine En.ret ?_ | refine En.normal ?_); simp only [go_sem]) | (simp only [go_sem, Nat.reduceAdd, Nat.reduceMul, Nat.reduceLT, Nat.reduceLeDiff]; (all_goals fail_if_success show False)) | fail
  exact Out.flat' rfl
end Go.Proofs.YtknciobaifdafaaGreatDoor.T
