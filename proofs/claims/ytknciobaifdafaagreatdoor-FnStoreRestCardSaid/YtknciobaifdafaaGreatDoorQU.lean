/- Walks of the store's functions, part 15: slices copied by the program. -/
import Derived.Test.YtknciobaifdafaaGreatDoorQEZ
import Derived.Test.YtknciobaifdafaaGreatDoorQD
import Derived.Test.YtknciobaifdafaaGreatDoorQS0
import Derived.Test.YtknciobaifdafaaGreatDoorQT
import Derived.Test.YtknciobaifdafaaGreatDoorQS5
set_option linter.unusedVariables false
set_option maxRecDepth 100000
set_option maxHeartbeats 1000000
set_option linter.unusedSimpArgs false
namespace Go.Proofs.YtknciobaifdafaaGreatDoor.T
open Go Go.Pv Go.Proofs.YtknciobaifdafaaGreatDoor.EF
theorem KC {mem : Mem} {i n : Nat} {xs : List PV} (hi : mem i = .row 9 xs) (hn : (n : Int) ≤ 1000000000) : aK Tryz.prog 113 [.ref i 0 n] mem fun y m => y = .ref i 0 n ∧ m = mem := by
  refine stM Tryz.func113 [.tmp 2] 9 rfl rfl rfl ?_
  repeat' first | refine sS ?_ | refine sO (fun K' hK' => ?_) | (refine sE hK' ?_; clear hK') | refine sU ?_ ?_ | exact sX | ((with_reducible first | refine En.ret ?_ | refine En.normal ?_); simp only [go_sem]) | (simp only [go_sem]; (all_goals fail_if_success show False)) | fail
  · rw [show ((n : Int) - 0).toNat = n by omega]
theorem Gg (l : List ByteArray) (hl : l.length ≤ 2000000) : Ok Tryz.prog 114 [.val l.length (l.map vS)] (.ref 0 0 l.length) [(9, l.map vS)] := by
  by_cases h0 : l.length = 0
  · obtain rfl := List.eq_nil_of_length_eq_zero h0
    refine stO Tryz.func114 [.tmp 2] 8 rfl rfl rfl ?_
    repeat' first | refine sS ?_ | refine sO (fun K' hK' => ?_) | ((with_reducible apply Jb); (case hc => exact rfl)) | (refine sE hK' ?_; clear hK') | refine sU ?_ ?_ | exact sX | ((with_reducible first | refine En.ret ?_ | refine En.normal ?_); simp only [go_sem]) | (simp only [go_sem, Nat.reduceAdd, Nat.reduceMul, Nat.reduceEqDiff, Nat.reduceLT, Nat.reduceLeDiff]; (all_goals fail_if_success show False)) | fail
    · refine Weak.trans (Weak.none (k := 5) (t := 9) rfl) ?_
      exact kp [⟨5, 0, 9, []⟩]
    · exact kp [⟨65568, 0, 9, []⟩]
  · refine stO Tryz.func114 [.tmp 2] 8 rfl rfl rfl ?_
    repeat' first | refine sS ?_ | refine sO (fun K' hK' => ?_) | (refine sE hK' ?_; clear hK') | (refine sD (fun hc => ?_) (fun hc => ?_) <;> try exact sZ hc) | refine sU ?_ ?_ | exact sX | ((with_reducible first | refine En.ret ?_ | refine En.normal ?_); simp only [go_sem]) | (simp only [go_sem, Nat.reduceAdd, Nat.reduceMul, Nat.reduceEqDiff, Nat.reduceLT, Nat.reduceLeDiff, h0, if_false]; (all_goals fail_if_success show False)) | fail
    exact kp [⟨65568, 0, 9, (l.map vS)⟩]
theorem pF (l : List ByteArray) (hl : l.length ≤ 2000000) : Ok Tryz.prog 74 [.val l.length (l.map vS)] (.ref 0 0 l.length) [(9, l.map vS)] := by
  refine stO Tryz.func74 [.tmp 2] 6 rfl rfl rfl ?_
  repeat' first | refine sS ?_ | ((with_reducible show aC ..); first | refine cM rfl rfl rfl rfl (KC (xs := l.map vS) (by simp only [aH, bg, List.map_cons, List.map_nil, oC, upd]; rfl) (by omega)) ?_ | refine cR rfl rfl rfl rfl (Gg l hl) ?_) | refine sO (fun K' hK' => ?_) | (refine sE hK' ?_; clear hK') | ((with_reducible first | refine En.ret ?_ | refine En.normal ?_); simp only [go_sem, Nat.reduceAdd, Nat.reduceMul]) | (simp only [go_sem, Nat.reduceAdd, Nat.reduceMul]; (all_goals fail_if_success show False)) | fail
  exact kp [⟨32784, 0, 9, (l.map vS)⟩]
theorem MM {mem : Mem} {i n : Nat} {xs : List PV} (hi : mem i = .row 110 xs) (hn : (n : Int) ≤ 1000000000) : aK Tryz.prog 151 [.ref i 0 n] mem fun y m => y = .ref i 0 n ∧ m = mem := by
  refine stM Tryz.func151 [.tmp 2] 9 rfl rfl rfl ?_
  repeat' first | refine sS ?_ | refine sO (fun K' hK' => ?_) | (refine sE hK' ?_; clear hK') | refine sU ?_ ?_ | exact sX | ((with_reducible first | refine En.ret ?_ | refine En.normal ?_); simp only [go_sem]) | (simp only [go_sem]; (all_goals fail_if_success show False)) | fail
  · rw [show ((n : Int) - 0).toNat = n by omega]
theorem Iq (l : List Wt) (hl : l.length ≤ 2000000) : Ok Tryz.prog 152 [.val l.length (l.flatMap cWt)] (.ref 0 0 l.length) [(110, l.flatMap cWt)] := by
  by_cases h0 : l.length = 0
  · obtain rfl := List.eq_nil_of_length_eq_zero h0
    refine stO Tryz.func152 [.tmp 2] 8 rfl rfl rfl ?_
    repeat' first | refine sS ?_ | refine sO (fun K' hK' => ?_) | ((with_reducible apply Jb); (case hc => exact rfl)) | (refine sE hK' ?_; clear hK') | refine sU ?_ ?_ | exact sX | ((with_reducible first | refine En.ret ?_ | refine En.normal ?_); simp only [go_sem]) | (simp only [go_sem, Nat.reduceAdd, Nat.reduceMul, Nat.reduceEqDiff, Nat.reduceLT, Nat.reduceLeDiff]; (all_goals fail_if_success show False)) | fail
    · refine Weak.trans (Weak.none (k := 5) (t := 110) rfl) ?_
      exact kp [⟨5, 0, 110, []⟩]
    · exact kp [⟨65568, 0, 110, []⟩]
  · refine stO Tryz.func152 [.tmp 2] 8 rfl rfl rfl ?_
    repeat' first | refine sS ?_ | refine sO (fun K' hK' => ?_) | (refine sE hK' ?_; clear hK') | (refine sD (fun hc => ?_) (fun hc => ?_) <;> try exact sZ hc) | refine sU ?_ ?_ | exact sX | ((with_reducible first | refine En.ret ?_ | refine En.normal ?_); simp only [go_sem]) | (simp only [go_sem, Nat.reduceAdd, Nat.reduceMul, Nat.reduceEqDiff, Nat.reduceLT, Nat.reduceLeDiff, h0, if_false]; (all_goals fail_if_success show False)) | fail
    exact kp [⟨65568, 0, 110, (l.flatMap cWt)⟩]
theorem KD (l : List Wt) (hl : l.length ≤ 2000000) : Ok Tryz.prog 112 [.val l.length (l.flatMap cWt)] (.ref 0 0 l.length) [(110, l.flatMap cWt)] := by
  refine stO Tryz.func112 [.tmp 2] 6 rfl rfl rfl ?_
  repeat' first | refine sS ?_ | ((with_reducible show aC ..); first | refine cM rfl rfl rfl rfl (MM (xs := l.flatMap cWt) (by simp only [aH, bg, List.map_cons, List.map_nil, qW, upd]; rfl) (by omega)) ?_ | refine cR rfl rfl rfl rfl (Iq l hl) ?_) | refine sO (fun K' hK' => ?_) | (refine sE hK' ?_; clear hK') | ((with_reducible first | refine En.ret ?_ | refine En.normal ?_); simp only [go_sem, Nat.reduceAdd, Nat.reduceMul]) | (simp only [go_sem, Nat.reduceAdd, Nat.reduceMul]; (all_goals fail_if_success show False)) | fail
  exact kp [⟨32784, 0, 110, (l.flatMap cWt)⟩]
theorem lZ (d : Dk) (h1 : d.cells.length ≤ 2000000) (h2 : d.waits.length ≤ 2000000) : Ok Tryz.prog 73 [vDk d] (.agg [.ref 0 0 d.cells.length, .ref 1 0 d.waits.length, vI d.room, vI d.left]) [(9, d.cells.map vS), (110, d.waits.flatMap cWt)] := by
  refine stO Tryz.func73 [.cell 2 33] 14 rfl rfl rfl ?_
  repeat' first | refine sS ?_ | ((with_reducible show uC ..); first | refine uR rfl rfl rfl rfl (pF d.cells h1) ?_ | refine uR rfl rfl rfl rfl (KD d.waits h2) ?_) | refine sO (fun K' hK' => ?_) | refine yA (fun K' hA' => ?_) | ((with_reducible show W _ _ (.region 1 _ _) _ _); refine sV 11 ?_) | (refine sE hK' ?_; clear hK') | (refine sE hA' ?_; clear hA') | ((with_reducible first | refine En.ret ?_ | refine En.normal ?_); simp only [go_sem, Nat.reduceAdd, Nat.reduceMul, Nat.reduceEqDiff, Nat.reduceLT, Nat.reduceLeDiff]) | (simp only [go_sem, Nat.reduceAdd, Nat.reduceMul, Nat.reduceEqDiff, Nat.reduceLT, Nat.reduceLeDiff]; (all_goals fail_if_success show False)) | fail
  exact kp [⟨32800, 0, 9, (d.cells.map vS)⟩, ⟨32848, 1, 110, (d.waits.flatMap cWt)⟩]
theorem iJ (s : Stor) (h1 : s.disk.cells.length ≤ 2000000) (h2 : s.disk.waits.length ≤ 2000000) (h3 : s.pages.length ≤ 2000000) : Ok Tryz.prog 67 [aN s] (.agg [.ref 0 0 s.disk.cells.length, .ref 1 0 s.disk.waits.length, vI s.disk.room, vI s.disk.left, vI s.turn, vI s.tries, vI s.next, .ref 2 0 s.pages.length]) [(9, s.disk.cells.map vS), (110, s.disk.waits.flatMap cWt), (9, s.pages.map vS)] := by
  refine stO Tryz.func67 [.cell 2 35] 12 rfl rfl rfl ?_
  repeat' first | refine sS ?_ | ((with_reducible show uC ..); first | refine uR rfl rfl rfl rfl (lZ s.disk h1 h2) ?_ | refine uR rfl rfl rfl rfl (pF s.pages h3) ?_) | refine sO (fun K' hK' => ?_) | refine yA (fun K' hA' => ?_) | ((with_reducible show W _ _ (.region 1 _ _) _ _); refine sV 7 ?_) | (refine sE hK' ?_; clear hK') | (refine sE hA' ?_; clear hA') | ((with_reducible first | refine En.ret ?_ | refine En.normal ?_); simp only [go_sem, Nat.reduceAdd, Nat.reduceMul, Nat.reduceEqDiff, Nat.reduceLT, Nat.reduceLeDiff]) | (simp only [go_sem, Nat.reduceAdd, Nat.reduceMul, Nat.reduceEqDiff, Nat.reduceLT, Nat.reduceLeDiff]; (all_goals fail_if_success show False)) | fail
  exact kp [⟨32800, 0, 9, (s.disk.cells.map vS)⟩, ⟨32801, 1, 110, (s.disk.waits.flatMap cWt)⟩, ⟨32848, 2, 9, (s.pages.map vS)⟩]
end Go.Proofs.YtknciobaifdafaaGreatDoor.T
set_option linter.unusedVariables false
set_option maxRecDepth 100000
set_option maxHeartbeats 1000000
set_option linter.unusedSimpArgs false
namespace Go.Proofs.YtknciobaifdafaaGreatDoor.T
open Go Go.Pv Go.Proofs.YtknciobaifdafaaGreatDoor.EF
def fiOf {α : Type} (p : α → Bool) (l : List α) : Int := if l.any p = true then (l.findIdx p : Int) else -1
theorem Gh {α : Type} {p : α → Bool} {l : List α} {d : α} {i : Nat} (hi : i < l.length) (h : p (l.getD i d) = true) (hb : ∀ k, k < i → p (l.getD k d) = false) : fiOf p l = i := by
  unfold fiOf
  rw [if_pos (List.any_eq_true.2 ⟨_, fV hi, h⟩)]
  congr 1
  rw [List.findIdx_eq hi]
  refine ⟨?_, fun j hj => ?_⟩
  · rwa [List.getD_eq_getElem?_getD, List.getElem?_eq_getElem hi] at h
  · have := hb j hj
    rwa [List.getD_eq_getElem?_getD, List.getElem?_eq_getElem (by omega)] at this
theorem CG {α : Type} {p : α → Bool} {l : List α} {d : α} (hb : ∀ k, k < l.length → p (l.getD k d) = false) : fiOf p l = -1 := by
  unfold fiOf
  rw [if_neg]
  intro h
  obtain ⟨x, hx, h⟩ := List.any_eq_true.1 h
  obtain ⟨k, hk, rfl⟩ := List.getElem_of_mem hx
  have := hb k hk
  rw [List.getD_eq_getElem?_getD, List.getElem?_eq_getElem hk] at this
  rw [show (some l[k]).getD d = l[k] from rfl, h] at this
  cases this
theorem Gi {α : Type} (p : α → Bool) (l : List α) : decide (0 ≤ fiOf p l) = l.any p := by
  unfold fiOf
  split
  · rename_i h; rw [h]; exact decide_eq_true (by omega)
  · rename_i h; rw [Bool.not_eq_true] at h; rw [h]; rfl
theorem KE {f : FuncId} (hcal : callable Tryz.prog f = true) (p : ByteArray → Bool) (hp : ∀ s, Ok Tryz.prog f [vS s] (vB (p s)) []) (l : List ByteArray) (hl : l.length ≤ 2000000) : Ok Tryz.prog 121 [.val l.length (l.map vS), .b (.func (.func f) #[] #[])] (vI (fiOf p l)) [] := by
  refine stO Tryz.func121 [.tmp 4] 19 rfl rfl rfl ?_
  repeat' first | refine sS ?_ | refine sO (fun K' hK' => ?_) | (refine sE hK' ?_; clear hK') | (simp only [go_sem]; (all_goals fail_if_success show False)) | fail
  refine W.loop (fun i : Nat => ⟨[.val l.length (l.map vS), .b (.func (.func f) #[] #[]), .any, .any, .any, .any, .any, vI l.length, vI i, .any, .any, .any, .any, .any, .any, .any, .any, .any, .any], bM⟩) (fun i => i ≤ l.length ∧ ∀ k, k < i → p (l.getD k ByteArray.empty) = false) (fun i => l.length - i) 0 ?wk0 ⟨Nat.zero_le _, fun k hk => absurd hk (Nat.not_lt_zero _)⟩ (fun i hi => ?_)
  case wk0 => exact kp []
  obtain ⟨hi, hb⟩ := hi
  repeat' first | refine sS ?_ | refine sN ?_ ?_ | ((with_reducible show aC ..); refine cF rfl rfl rfl rfl (hp _) ?_) | refine sO (fun K' hK' => ?_) | (refine sE hK' ?_; clear hK') | (refine sD (fun hc => ?_) (fun hc => ?_) <;> try exact sZ hc) | refine sU ?_ ?_ | exact sX | ((with_reducible first | refine En.ret ?_ | refine En.normal ?_); simp only [go_sem]) | (simp only [go_sem]; (all_goals fail_if_success show False)) | fail
  · exact Out.flat' (congrArg (Value.int .i64) (Gh (d := ByteArray.empty) (by omega) hc hb).symm)
  · refine Rnd.normal (i + 1) ⟨by omega, fun k hk => ?_⟩ (by omega) ?_
    · by_cases e : k = i
      · rw [e]; exact hc
      · exact hb k (by omega)
    · rw [af (x := (i : Int) + 1) (by omega) (by omega)]
      exact kp []
  · exact Out.flat' (congrArg (Value.int .i64) (CG (d := ByteArray.empty) (fun k hk => hb k (by omega))).symm)
theorem vZ {f : FuncId} (hcal : callable Tryz.prog f = true) (p : ByteArray → Bool) (hp : ∀ s, Ok Tryz.prog f [vS s] (vB (p s)) []) (l : List ByteArray) (hl : l.length ≤ 2000000) : Ok Tryz.prog 78 [.val l.length (l.map vS), .b (.func (.func f) #[] #[])] (vB (l.any p)) [] := by
  have hx := KE hcal p hp l hl
  refine stO Tryz.func78 [.tmp 4] 9 rfl rfl rfl ?_
  repeat' first | refine sS ?_ | ((with_reducible show aC ..); refine cF rfl rfl rfl rfl hx ?_) | refine sO (fun K' hK' => ?_) | (refine sE hK' ?_; clear hK') | ((with_reducible first | refine En.ret ?_ | refine En.normal ?_); simp only [go_sem]) | (simp only [go_sem]; (all_goals fail_if_success show False)) | fail
  exact Out.flat' (congrArg Value.bool (Gi p l))
theorem KF {f : FuncId} (hcal : callable Tryz.prog f = true) (p : Wt → Bool) (hp : ∀ s, Ok Tryz.prog f [vWt s] (vB (p s)) []) (l : List Wt) (hl : l.length ≤ 2000000) : Ok Tryz.prog 150 [.val l.length (l.flatMap cWt), .b (.func (.func f) #[] #[])] (vI (fiOf p l)) [] := by
  refine stO Tryz.func150 [.tmp 4] 19 rfl rfl rfl ?_
  repeat' first | refine sS ?_ | refine sO (fun K' hK' => ?_) | (refine sE hK' ?_; clear hK') | (simp only [go_sem]; (all_goals fail_if_success show False)) | fail
  refine W.loop (fun i : Nat => ⟨[.val l.length (l.flatMap cWt), .b (.func (.func f) #[] #[]), .any, .any, .any, .any, .any, vI l.length, vI i, .any, .any, .any, .any, .any, .any, .any, .any, .any, .any], bM⟩) (fun i => i ≤ l.length ∧ ∀ k, k < i → p (l.getD k wt0) = false) (fun i => l.length - i) 0 ?wk0 ⟨Nat.zero_le _, fun k hk => absurd hk (Nat.not_lt_zero _)⟩ (fun i hi => ?_)
  case wk0 => exact kp []
  obtain ⟨hi, hb⟩ := hi
  by_cases hil : i < l.length
  · have hd := dG hil
    have hpi : Ok Tryz.prog f [.agg [vI (l.getD i wt0).cell, vS (l.getD i wt0).text]] (vB (p (l.getD i wt0))) [] := hp (l.getD i wt0)
    repeat' first | refine sS ?_ | ((with_reducible show aC ..); refine cF rfl rfl rfl rfl hpi ?_) | refine sO (fun K' hK' => ?_) | (refine sE hK' ?_; clear hK') | (refine sD (fun hc => ?_) (fun hc => ?_) <;> try exact sZ hc) | refine sU ?_ ?_ | exact sX | ((with_reducible first | refine En.ret ?_ | refine En.normal ?_); simp only [go_sem]) | (simp only [go_sem, Nat.reduceLeDiff, hd, List.take_succ_cons, List.take_zero, List.length_cons]; (all_goals fail_if_success show False)) | fail
    · exact Out.flat' (congrArg (Value.int .i64) (Gh (d := wt0) (by omega) hc hb).symm)
    · refine Rnd.normal (i + 1) ⟨by omega, fun k hk => ?_⟩ (by omega) ?_
      · by_cases e : k = i
        · rw [e]; exact hc
        · exact hb k (by omega)
      · rw [af (x := (i : Int) + 1) (by omega) (by omega)]
        exact kp []
  · repeat' first | refine sS ?_ | refine sO (fun K' hK' => ?_) | (refine sE hK' ?_; clear hK') | (refine sD (fun hc => ?_) (fun hc => ?_) <;> try exact sZ hc) | ((with_reducible first | refine En.ret ?_ | refine En.normal ?_); simp only [go_sem]) | (simp only [go_sem]; (all_goals fail_if_success show False)) | fail
    exact Out.flat' (congrArg (Value.int .i64) (CG (d := wt0) (fun k hk => hb k (by omega))).symm)
theorem Ec {f : FuncId} (hcal : callable Tryz.prog f = true) (p : Wt → Bool) (hp : ∀ s, Ok Tryz.prog f [vWt s] (vB (p s)) []) (l : List Wt) (hl : l.length ≤ 2000000) : Ok Tryz.prog 110 [.val l.length (l.flatMap cWt), .b (.func (.func f) #[] #[])] (vB (l.any p)) [] := by
  have hx := KF hcal p hp l hl
  refine stO Tryz.func110 [.tmp 4] 9 rfl rfl rfl ?_
  repeat' first | refine sS ?_ | ((with_reducible show aC ..); refine cF rfl rfl rfl rfl hx ?_) | refine sO (fun K' hK' => ?_) | (refine sE hK' ?_; clear hK') | ((with_reducible first | refine En.ret ?_ | refine En.normal ?_); simp only [go_sem]) | (simp only [go_sem]; (all_goals fail_if_success show False)) | fail
  exact Out.flat' (congrArg Value.bool (Gi p l))
theorem CJ (d : Dk) (h1 : d.cells.length ≤ 2000000) (h2 : d.waits.length ≤ 2000000) : Ok Tryz.prog 72 [vDk d] (vB (dkOk d)) [] := by
  have hcs := vZ (f := 109) (by kernel_rfl) (fun s => decide (1200 < s.size)) OM d.cells h1
  have hcw := Ec (f := 111) (by kernel_rfl) (fun x => !wtOk x) Il d.waits h2
  have e : dkOk d = (decide (d.cells.length = 42 ∧ d.waits.length ≤ 100 ∧ -1 ≤ d.room ∧ -1 ≤ d.left) && !(d.cells.any fun s => decide (1200 < s.size)) && !(d.waits.any fun x => !wtOk x)) := by
    unfold dkOk
    rw [List.not_any_eq_all_not, List.not_any_eq_all_not]
    congr 2
    · congr 1
      funext s
      rw [← decide_not]
      congr 1
      exact propext (by omega)
    · congr 1
      funext x
      simp
  rw [e]
  generalize d.cells.any (fun s => decide (1200 < s.size)) = B1 at hcs ⊢
  generalize d.waits.any (fun x => !wtOk x) = B2 at hcw ⊢
  refine stO Tryz.func72 [.tmp 2] 35 rfl rfl rfl ?_
  repeat' first | refine sS ?_ | ((with_reducible show aC ..); first | refine cF rfl rfl rfl rfl hcs ?_ | refine cF rfl rfl rfl rfl hcw ?_) | refine sO (fun K' hK' => ?_) | refine sY ?_ | (refine sI (fun hg => ?_) (fun hg K' hK' => ?_) <;> try exact sZ hg) | (refine sE hK' ?_; clear hK') | ((with_reducible first | refine En.ret ?_ | refine En.normal ?_); simp only [go_sem]) | (simp only [go_sem, Nat.reduceAdd, Nat.reduceMul, Nat.reduceLT]; (all_goals fail_if_success show False)) | fail
  all_goals refine Out.flat' (congrArg Value.bool ?_)
  all_goals first
    | (simp; done)
    | (rw [Bool.eq_iff_iff]; simp; omega)
    | (rw [Bool.eq_iff_iff]; simp_all; done)
    | (rw [Bool.eq_iff_iff]; simp_all; omega)
end Go.Proofs.YtknciobaifdafaaGreatDoor.T
set_option linter.unusedVariables false
set_option maxRecDepth 100000
set_option maxHeartbeats 1000000
set_option linter.unusedSimpArgs false
namespace Go.Proofs.YtknciobaifdafaaGreatDoor.T
open Go Go.Pv Go.Proofs.YtknciobaifdafaaGreatDoor.EF
theorem MN (a b : List ByteArray) (ha : a.length ≤ 2000000) (hb : b.length ≤ 2000000) :
    Ok Tryz.prog 69 [.val a.length (a.map vS), .val b.length (b.map vS)] (vB (decide (a = b))) [] := by
  refine stO Tryz.func69 [.tmp 4] 26 rfl rfl rfl ?_
  repeat' first | refine sS ?_ | refine sO (fun K' hK' => ?_) | (refine sE hK' ?_; clear hK') | (refine sD (fun hc => ?_) (fun hc => ?_) <;> try exact sZ hc) | ((with_reducible first | refine En.ret ?_ | refine En.normal ?_); simp only [go_sem]) | (simp only [go_sem]; (all_goals fail_if_success show False)) | fail
  · exact Out.flat' (by rw [decide_eq_false (fun e => hc (by rw [e]))])
  refine W.loop (fun i : Nat => ⟨[.val a.length (a.map vS), .val b.length (b.map vS), .any, .any, .any, .any, .any, .any, .any, .any, .any, .any, vI a.length, vI i, .any, .any, .any, .any, .any, .any, .any, .any, .any, .any, .any, .any], bM⟩) (fun i => i ≤ a.length ∧ ∀ k, k < i → a.getD k ByteArray.empty = b.getD k ByteArray.empty) (fun i => a.length - i) 0 ?wk0 ⟨Nat.zero_le _, fun k hk => absurd hk (Nat.not_lt_zero _)⟩ (fun i hi => ?_)
  case wk0 => exact kp []
  obtain ⟨hi, hall⟩ := hi
  repeat' first | refine sS ?_ | refine sN ?_ ?_ | refine sO (fun K' hK' => ?_) | refine yA (fun K' hA' => ?_) | ((with_reducible show W _ _ (.region 6 _ _) _ _); refine sV 9 ?_) | (refine sE hK' ?_; clear hK') | (refine sE hA' ?_; clear hA') | (refine sD (fun hc => ?_) (fun hc => ?_) <;> try exact sZ hc) | refine sU ?_ ?_ | exact sX | ((with_reducible first | refine En.ret ?_ | refine En.normal ?_); simp only [go_sem]) | (simp only [go_sem]; (all_goals fail_if_success show False)) | fail
  · exact Out.flat' (by rw [decide_eq_false (fun e => hc (by rw [e]))])
  · refine Rnd.normal (i + 1) ⟨by omega, fun k hk => ?_⟩ (by omega) ?_
    · by_cases e : k = i
      · rw [e]; exact hc
      · exact hall k (by omega)
    · rw [af (x := (i : Int) + 1) (by omega) (by omega)]
      exact kp []
  · refine Out.flat' ?_
    rw [decide_eq_true]
    refine List.ext_getElem (by omega) fun k h1 h2 => ?_
    have := hall k (by omega)
    rwa [← jB h1, ← jB h2] at this
theorem MO (fs : List Fr) (turn above : Int) (place : Nat) (hf : fs.length = 20) (hp : place ≤ 20) :
    Ok Tryz.prog 77 [.val 20 (fs.flatMap cFr), vI turn, vI above, vI place] (.val (grpP fs turn above place (20 - place) place) (((fs.drop place).take (grpP fs turn above place (20 - place) place)).flatMap cFr)) [] := by
  generalize hR : grpP fs turn above place (20 - place) place = R
  refine stO Tryz.func77 [.tmp 8] 49 rfl rfl rfl ?_
  repeat' first | refine sS ?_ | refine sO (fun K' hK' => ?_) | (refine sE hK' ?_; clear hK') | (simp only [go_sem]; (all_goals fail_if_success show False)) | fail
  refine W.loop (fun n : Nat => ⟨[.val 20 (fs.flatMap cFr), vI turn, vI above, vI place, .any, .any, .any, .any, .any, vI n, .any, .any, .any, .any, .any, .any, .any, .any, .any, .any, .any, .any, .any, .any, .any, .any, .any, .any, .any, .any, .any, .any, .any, .any, .any, .any, .any, .any, .any, .any, .any, .any, .any, .any, .any, .any, .any, .any, .any], bM⟩) (fun n => place ≤ n ∧ n ≤ 20 ∧ grpP fs turn above place (20 - n) n = R) (fun n => 20 - n) place ?wk0 ⟨Nat.le_refl _, hp, hR⟩ (fun n hn => ?_)
  case wk0 => exact kp []
  obtain ⟨hn0, hn1, hn2⟩ := hn
  by_cases hlt : n < 20
  · have hd := zx (l := fs) (k := n) (by omega)
    have hd2 := zx (l := fs) (k := place) (by omega)
    rw [show 20 - n = (19 - n) + 1 by omega, grpP] at hn2
    repeat' first | refine sS ?_ | refine sO (fun K' hK' => ?_) | refine sY ?_ | refine yA (fun K' hA' => ?_) | (refine sJ (fun hg => ?_) (fun hg => ?_) <;> try exact sZ hg) | ((with_reducible show W _ _ (.region 5 _ _) _ _); refine sV 20 ?_) | (refine sE hK' ?_; clear hK') | (refine sE hA' ?_; clear hA') | (refine sD (fun hc => ?_) (fun hc => ?_) <;> try exact sZ hc) | refine sU ?_ ?_ | exact sX | ((with_reducible first | refine En.ret ?_ | refine En.normal ?_); simp only [go_sem]) | (simp only [go_sem, Nat.reduceAdd, Nat.reduceMul, Nat.reduceLT, Nat.reduceLeDiff, hd, hd2, List.take_succ_cons, List.take_zero, List.length_cons, List.drop_succ_cons]; (all_goals fail_if_success show False)) | fail
    all_goals first
      | (rw [if_pos (by omega)] at hn2; subst hn2; exact kp [])
      | (rw [if_neg (by omega), if_pos hc] at hn2
         subst hn2
         rw [← hd2, af (x := (n : Int) + 1) (by omega) (by omega), show ((n : Int) + 1 - place).toNat = n + 1 - place by omega, J5 (by omega), J6]
         exact kp [])
      | (rw [if_neg (by omega), if_neg (by rw [hc]; decide)] at hn2
         refine Rnd.normal (n + 1) ⟨by omega, by omega, by rw [show 20 - (n + 1) = 19 - n by omega]; exact hn2⟩ (by omega) ?_
         rw [af (x := (n : Int) + 1) (by omega) (by omega)]
         exact kp [])
  · repeat' first | refine sS ?_ | refine sO (fun K' hK' => ?_) | (refine sE hK' ?_; clear hK') | (refine sD (fun hc => ?_) (fun hc => ?_) <;> try exact sZ hc) | ((with_reducible first | refine En.ret ?_ | refine En.normal ?_); simp only [go_sem]) | (simp only [go_sem]; (all_goals fail_if_success show False)) | fail
    rw [show 20 - n = 0 by omega, grpP] at hn2
    subst hn2
    exact kp []
end Go.Proofs.YtknciobaifdafaaGreatDoor.T
set_option linter.unusedVariables false
set_option maxRecDepth 100000
set_option maxHeartbeats 4000000
set_option linter.unusedSimpArgs false
namespace Go.Proofs.YtknciobaifdafaaGreatDoor.T
open Go Go.Pv Go.Proofs.YtknciobaifdafaaGreatDoor.EF
structure RdU where
  next : Nat
  above : Int
  pages : List ByteArray
  fuel : Nat
theorem gU (d : Dk) (h1 : d.cells.length ≤ 2000000) (h2 : d.waits.length ≤ 2000000) : Ok Tryz.prog 31 [vDk d] (.tup [dJ (bV d).1, vB (bV d).2]) (aJ (bV d).1) := by
  have hok := CJ d h1 h2
  by_cases hd : dkOk d = true ∧ d.waits.length = 0
  · obtain ⟨hd, hw⟩ := hd
    unfold bV
    rw [if_pos ⟨hd, hw⟩]
    rw [hd] at hok
    obtain ⟨hlen, hwl, hroom, hleft⟩ : d.cells.length = 42 ∧ d.waits.length ≤ 100 ∧ -1 ≤ d.room ∧ -1 ≤ d.left := by
      unfold dkOk at hd; simp only [Bool.and_eq_true, decide_eq_true_eq] at hd; exact hd.1.1
    have hs : ∀ k, (d.cells.getD k ByteArray.empty).size ≤ 1000000 := fun k => by
      rcases Nat.lt_or_ge k d.cells.length with h | h
      · unfold dkOk at hd; simp only [Bool.and_eq_true, List.all_eq_true] at hd
        have := of_decide_eq_true (hd.1.2 _ (fV (d := ByteArray.empty) h))
        omega
      · rw [List.getD_eq_getElem?_getD, List.getElem?_eq_none h]; exact Nat.zero_le _
    have hcopy := lZ d h1 h2
    have hp20 : (ay d.cells).length = 20 := by unfold ay; rw [List.length_take, List.length_drop]; omega
    have hclone := pF (ay d.cells) (by omega)
    rw [hp20] at hclone
    have hpg : List.take 20 (List.drop 2 (List.map vS d.cells)) = (ay d.cells).map vS := by rw [Ii, uq]; rfl
    unfold FP
    have hsub : ((22 : Int) - 2).toNat = 20 := rfl
    have hsub2 : ((2 : Int) - 0).toNat = 2 := rfl
    have hl2 : (d.cells.take 2).length = 2 := by rw [List.length_take]; omega
    have hs2 : ∀ k, ((d.cells.take 2).getD k ByteArray.empty).size ≤ 1000000 := fun k => by
      rcases Nat.lt_or_ge k 2 with h | h
      · rw [List.getD_eq_getElem?_getD, List.getElem?_take_of_lt h, ← List.getD_eq_getElem?_getD]; exact hs k
      · rw [List.getD_eq_getElem?_getD, List.getElem?_eq_none (by omega)]; exact Nat.zero_le _
    have hturn := fun k => Ky ((d.cells.take 2).getD k ByteArray.empty) (hs2 k)
    have htin := fun s => vU s
    refine stO Tryz.func31 [.cell 2 35, .tmp 3] 138 rfl rfl rfl ?_
    have hT0 : tI (d.cells.take 2) 0 = 0 := rfl
    have hTs : ∀ i, tI (d.cells.take 2) (i + 1) = if (jH ((d.cells.take 2).getD i ByteArray.empty)).tmod 2 = i then max (tI (d.cells.take 2) i) (jH ((d.cells.take 2).getD i ByteArray.empty)) else tI (d.cells.take 2) i := fun i => rfl
    have hTb := Pq (d.cells.take 2)
    generalize tI (d.cells.take 2) = T at hT0 hTs hTb ⊢
    have hfr0 := fun k h => Io (d.cells.getD (22 + k) ByteArray.empty) (k : Nat) (hs _) h
    have hqi : ∀ k : Nat, k < 20 → (qOf d.cells k).2 = true → FrIn (qOf d.cells k).1 := fun k hk h => (nz (by omega) h).1
    have hfr : ∀ k : Nat, k < 20 → Ok Tryz.prog 76 [vS (d.cells.getD (IntKind.i64.wrap (22 + (k : Int))).toNat ByteArray.empty), vI k] (.tup [vFr (qOf d.cells k).1, vB (qOf d.cells k).2]) [] := fun k hk => by
      rw [af (by omega) (by omega), show (22 + (k : Int)).toNat = 22 + k by omega]
      exact hfr0 k (by omega)
    generalize qOf d.cells = q at hqi hfr ⊢
    repeat' first | refine sS ?_ | ((with_reducible show aC ..); refine cF rfl rfl rfl rfl hok ?_) | ((with_reducible show uC ..); first | refine uR rfl rfl rfl rfl hcopy ?_ | refine uR rfl rfl rfl rfl hclone ?_) | refine sO (fun K' hK' => ?_) | refine yA (fun K' hA' => ?_) | ((with_reducible show W _ _ (.region 3 _ _) _ _); refine sV 8 ?_) | (refine sE hK' ?_; clear hK') | (refine sE hA' ?_; clear hA') | (refine sD (fun hc => ?_) (fun hc => ?_) <;> try exact sZ hc) | refine sU ?_ ?_ | exact sX | (simp only [go_sem, Nat.reduceAdd, Nat.reduceMul, Nat.reduceEqDiff, Nat.reduceLT, Nat.reduceLeDiff, Int.reduceToNat, hpg, hsub, hsub2, uq, List.drop_zero]; (all_goals fail_if_success show False)) | fail
    refine W.loop (fun i : Nat => ⟨[.any, .ptr 0 0, .ptr 1 0, vB false, .ptr 2 0, .any, .any, .any, .any, .any, .any, .any, .any, .any, .any, .any, .any, .any, .any, .any, .any, .any, .any, .any, .any, .any, .any, .any, .any, .any, .any, .any, .any, .any, .any, .val 2 ((d.cells.take 2).map vS), vI 2, vI i, .any, .any, .any, .any, .any, .any, .any, .any, .any, .any, .any, .any, .any, .any, .any, .any, .any, .any, .any, .any, .any, .any, .any, .any, .any, .any, .any, .any, .any, .any, .any, .any, .any, .any, .any, .any, .any, .any, .any, .any, .any, .any, .any, .any, .any, .any, .any, .any, .any, .any, .any, .any, .any, .any, .any, .any, .any, .any, .any, .any, .any, .any, .any, .any, .any, .any, .any, .any, .any, .any, .any, .any, .any, .any, .any, .any, .any, .any, .any, .any, .any, .any, .any, .any, .any, .any, .any, .any, .any, .any, .any, .any, .any, .any, .any, .any, .any, .any, .any, .any], aZ [(0, 33, [.val d.cells.length (d.cells.map vS), .val d.waits.length (d.waits.flatMap cWt), vI d.room, vI d.left]), (1, 35, [.b (.slice none 0 0), .b (.slice none 0 0), vI 0, vI 0, vI 0, vI 0, vI 0, .b (.slice none 0 0)]), (2, 35, [.ref 4 0 d.cells.length, .ref 5 0 d.waits.length, vI d.room, vI d.left, vI (T i), vI 0, vI 0, .ref 3 0 20]), (3, 9, (ay d.cells).map vS), (4, 9, d.cells.map vS), (5, 110, d.waits.flatMap cWt)]⟩) (fun i => i ≤ 2) (fun i => 2 - i) 0 ?wk0 (by omega) (fun i hi => ?_)
    case wk0 => dsimp only; rw [hT0]; exact kp [⟨16384, 0, 33, [.val d.cells.length (d.cells.map vS), .val d.waits.length (d.waits.flatMap cWt), vI d.room, vI d.left]⟩, ⟨16400, 1, 35, [.b (.slice none 0 0), .b (.slice none 0 0), vI 0, vI 0, vI 0, vI 0, vI 0, .b (.slice none 0 0)]⟩, ⟨65648, 2, 35, [.ref 4 0 d.cells.length, .ref 5 0 d.waits.length, vI d.room, vI d.left, vI (0), vI 0, vI 0, .ref 3 0 20]⟩, ⟨65616, 3, 9, ((ay d.cells).map vS)⟩, ⟨65552, 4, 9, (d.cells.map vS)⟩, ⟨65553, 5, 110, (d.waits.flatMap cWt)⟩]
    have hti := htin ((d.cells.take 2).getD i ByteArray.empty)
    have hTi := hTb i
    repeat' first | refine sS ?_ | refine sN ?_ ?_ | ((with_reducible show aC ..); refine cF rfl rfl rfl rfl (hturn _) ?_) | refine sO (fun K' hK' => ?_) | (refine sE hK' ?_; clear hK') | (refine sD (fun hc => ?_) (fun hc => ?_) <;> try exact sZ hc) | refine sU ?_ ?_ | exact sX | ((with_reducible first | refine En.ret ?_ | refine En.normal ?_); simp only [List.getD_cons_zero, List.getD_cons_succ, iy, fJ, upd, List.length_cons, List.length_nil, List.drop_zero, List.take_succ_cons, List.take_zero, if_true, if_false, true_and, Nat.reduceAdd, Nat.reduceEqDiff, Nat.reduceLT, Nat.reduceLeDiff, Nat.zero_add, oh, y9, oneOf, ti35]) | (simp only [aop, Option.isSome_some, Bool.and_true, aZ, St.eval, List.getD_cons_zero, List.getD_cons_succ, aBin, binI, iy, eH, jP, kF, lH, aLen, aMin, iG, oU, uX, cellsOf, storable, storeL, kG, upd, Int.toNat_natCast, Nat.mul_one, List.map_cons, List.map_nil, List.length_cons, List.length_nil, List.drop_zero, List.drop_succ_cons, List.set_cons_zero, List.set_cons_succ, List.all_cons, List.all_nil, if_true, if_false, true_and, Nat.reduceAdd, Nat.reduceMul, Nat.reduceEqDiff, Nat.reduceLT, Nat.reduceLeDiff, Int.reduceToNat, Value.cells, Value.oneCell', Nat.zero_add, Nat.add_zero, DK, se22, se95, sp35, ti3, ti35, ti9]; (all_goals fail_if_success show False)) | fail
    · have e := hTs i
      rw [if_pos hc] at e
      refine Rnd.normal (i + 1) (by omega) (by omega) ?_
      rw [af (x := (i : Int) + 1) (by omega) (by omega), ← e]
      exact kp [⟨0, 0, 33, [.val d.cells.length (d.cells.map vS), .val d.waits.length (d.waits.flatMap cWt), vI d.room, vI d.left]⟩, ⟨1, 1, 35, [.b (.slice none 0 0), .b (.slice none 0 0), vI 0, vI 0, vI 0, vI 0, vI 0, .b (.slice none 0 0)]⟩, ⟨2, 2, 35, [.ref 4 0 d.cells.length, .ref 5 0 d.waits.length, vI d.room, vI d.left, vI (T (i + 1)), vI (0), vI (0), .ref 3 0 20]⟩, ⟨3, 3, 9, ((ay d.cells).map vS)⟩, ⟨4, 4, 9, (d.cells.map vS)⟩, ⟨5, 5, 110, (d.waits.flatMap cWt)⟩]
    · have e := hTs i
      rw [if_neg hc] at e
      refine Rnd.normal (i + 1) (by omega) (by omega) ?_
      rw [af (x := (i : Int) + 1) (by omega) (by omega), ← e]
      exact kp [⟨0, 0, 33, [.val d.cells.length (d.cells.map vS), .val d.waits.length (d.waits.flatMap cWt), vI d.room, vI d.left]⟩, ⟨1, 1, 35, [.b (.slice none 0 0), .b (.slice none 0 0), vI 0, vI 0, vI 0, vI 0, vI 0, .b (.slice none 0 0)]⟩, ⟨2, 2, 35, [.ref 4 0 d.cells.length, .ref 5 0 d.waits.length, vI d.room, vI d.left, vI (T (i + 1)), vI (0), vI (0), .ref 3 0 20]⟩, ⟨3, 3, 9, ((ay d.cells).map vS)⟩, ⟨4, 4, 9, (d.cells.map vS)⟩, ⟨5, 5, 110, (d.waits.flatMap cWt)⟩]
    · obtain rfl : i = 2 := by omega
      rw [show xX d q (T 2) = (bU, false) by unfold xX; rw [if_pos (.inl hc)]]
      refine Weak.trans (Weak.none (k := 10) (t := 9) (by simp [upd])) (Weak.trans (Weak.none (k := 11) (t := 110) (by simp [upd])) (Weak.trans (Weak.none (k := 12) (t := 9) (by simp [upd])) ?_))
      exact kp [⟨10, 0, 9, []⟩, ⟨11, 1, 110, []⟩, ⟨12, 2, 9, []⟩]
    obtain rfl : i = 2 := by omega
    generalize T 2 = turn at hTi hc ⊢
    have hall : ∀ i, i < 20 → (fsP q i).length = 20 := fun i hi => o7 q i (by omega)
    refine W.loop (fun i : Nat => ⟨[.any, .ptr 0 0, .ptr 1 0, vB false, .ptr 2 0, .any, .any, .any, .ref 6 0 20, .any, .any, .any, .any, .any, .any, .any, .any, .any, .any, .any, .any, .any, .any, .any, .any, .any, .any, .any, .any, .any, .any, .any, .any, .any, .any, .any, .any, .any, .any, .any, .any, .any, .any, .any, .any, .any, .any, .any, .any, .any, .any, .any, .any, .any, .any, .any, .any, .any, .any, .any, vI 20, vI i, .any, .any, .any, .any, .any, .any, .any, .any, .any, .any, .any, .any, .any, .any, .any, .any, .any, .any, .any, .any, .any, .any, .any, .any, .any, .any, .any, .any, .any, .any, .any, .any, .any, .any, .any, .any, .any, .any, .any, .any, .any, .any, .any, .any, .any, .any, .any, .any, .any, .any, .any, .any, .any, .any, .any, .any, .any, .any, .any, .any, .any, .any, .any, .any, .any, .any, .any, .any, .any, .any, .any, .any, .any, .any, .any, .any], aZ [(0, 33, [.val d.cells.length (d.cells.map vS), .val d.waits.length (d.waits.flatMap cWt), vI d.room, vI d.left]), (1, 35, [.b (.slice none 0 0), .b (.slice none 0 0), vI 0, vI 0, vI 0, vI 0, vI 0, .b (.slice none 0 0)]), (2, 35, [.ref 4 0 d.cells.length, .ref 5 0 d.waits.length, vI d.room, vI d.left, vI (turn), vI (trP q turn i), vI (0), .ref 3 0 20]), (3, 9, (ay d.cells).map vS), (4, 9, d.cells.map vS), (5, 110, d.waits.flatMap cWt), (6, 97, (fsP q i).flatMap cFr)]⟩) (fun i => i ≤ 20 ∧ dL (BR q turn) i = false) (fun i => 20 - i) 0 ?wk1 ⟨by omega, rfl⟩ (fun i hi => ?_)
    case wk1 => dsimp only [trP]; rw [← Ko (q := q)]; exact kp [⟨0, 0, 33, [.val d.cells.length (d.cells.map vS), .val d.waits.length (d.waits.flatMap cWt), vI d.room, vI d.left]⟩, ⟨1, 1, 35, [.b (.slice none 0 0), .b (.slice none 0 0), vI 0, vI 0, vI 0, vI 0, vI 0, .b (.slice none 0 0)]⟩, ⟨2, 2, 35, [.ref 4 0 d.cells.length, .ref 5 0 d.waits.length, vI d.room, vI d.left, vI (turn), vI (0), vI (0), .ref 3 0 20]⟩, ⟨3, 3, 9, ((ay d.cells).map vS)⟩, ⟨4, 4, 9, (d.cells.map vS)⟩, ⟨5, 5, 110, (d.waits.flatMap cWt)⟩, ⟨229376, 6, 97, ((fsP q 0).flatMap cFr)⟩]
    obtain ⟨hi, hno⟩ := hi
    have hli := o7 q i (by omega)
    have hln := o7 q (i + 1)
    have hlate : (BR q turn i) = ((q i).2 && decide (turn < (q i).1.turn)) := rfl
    have hidx : i < 20 → (IntKind.i64.wrap (22 + (i : Int))).toNat < d.cells.length := fun h => by rw [af (by omega) (by omega)]; omega
    have hts : trP q turn (i + 1) = if (q i).2 = true ∧ (q i).1.turn = turn then max (trP q turn i) (q i).1.tries else trP q turn i := rfl
    repeat' first | refine sS ?_ | refine sN ?_ ?_ | (with_reducible refine hidx (by omega)) | ((with_reducible show aC ..); refine cR rfl rfl rfl rfl (hfr _ (by omega)) ?_) | refine sO (fun K' hK' => ?_) | (refine sE hK' ?_; clear hK') | (refine sD (fun hc => ?_) (fun hc => ?_) <;> try exact sZ hc) | refine sU ?_ ?_ | exact sX | ((with_reducible first | refine En.ret ?_ | refine En.normal ?_); simp only [go_sem, Nat.reduceAdd, Nat.reduceMul, Nat.reduceEqDiff, Nat.reduceLT, Nat.reduceLeDiff]) | (simp only [go_sem, Nat.reduceAdd, Nat.reduceMul, Nat.reduceEqDiff, Nat.reduceLT, Nat.reduceLeDiff, OC]; (all_goals fail_if_success show False)) | fail
    · have e1 := MB q (i := i) (by omega) hc
      have e2 : trP q turn (i + 1) = trP q turn i := by rw [hts, if_neg (by rw [hc]; simp)]
      refine Rnd.normal (i + 1) ⟨by omega, by unfold dL; rw [hno, hlate, hc]; rfl⟩ (by omega) ?_
      rw [af (x := (i : Int) + 1) (by omega) (by omega), ← e1, ← e2]
      exact kp [⟨0, 0, 33, [.val d.cells.length (d.cells.map vS), .val d.waits.length (d.waits.flatMap cWt), vI d.room, vI d.left]⟩, ⟨1, 1, 35, [.b (.slice none 0 0), .b (.slice none 0 0), vI 0, vI 0, vI 0, vI 0, vI 0, .b (.slice none 0 0)]⟩, ⟨2, 2, 35, [.ref 4 0 d.cells.length, .ref 5 0 d.waits.length, vI d.room, vI d.left, vI (turn), vI (trP q turn (i + 1)), vI (0), .ref 3 0 20]⟩, ⟨3, 3, 9, ((ay d.cells).map vS)⟩, ⟨4, 4, 9, (d.cells.map vS)⟩, ⟨5, 5, 110, (d.waits.flatMap cWt)⟩, ⟨6, 6, 97, ((fsP q (i + 1)).flatMap cFr)⟩]
    · have hq2 : (q i).2 = true := by assumption
      rw [show xX d q turn = (bU, false) by unfold xX; rw [if_pos (.inr (kJ (k := i) (by omega) (by rw [hlate, hq2, decide_eq_true hc]; rfl)))]]
      refine Weak.trans (Weak.none (k := 10) (t := 9) (by simp [upd])) (Weak.trans (Weak.none (k := 11) (t := 110) (by simp [upd])) (Weak.trans (Weak.none (k := 12) (t := 9) (by simp [upd])) ?_))
      exact kp [⟨10, 0, 9, []⟩, ⟨11, 1, 110, []⟩, ⟨12, 2, 9, []⟩]
    · have hq2 : (q i).2 = true := by assumption
      have hnl : ¬ turn < (q i).1.turn := by assumption
      have e1 := zD q (i := i) (by omega)
      rw [show fP q i = (q i).1 by unfold fP; rw [if_pos hq2]] at e1
      have e2 : trP q turn (i + 1) = max (trP q turn i) (q i).1.tries := by rw [hts, if_pos ⟨hq2, hc⟩]
      refine Rnd.normal (i + 1) ⟨by omega, by unfold dL; rw [hno, hlate, decide_eq_false hnl, Bool.and_false]; rfl⟩ (by omega) ?_
      rw [af (x := (i : Int) + 1) (by omega) (by omega), FT (by omega), ← e1, ← e2]
      exact kp [⟨0, 0, 33, [.val d.cells.length (d.cells.map vS), .val d.waits.length (d.waits.flatMap cWt), vI d.room, vI d.left]⟩, ⟨1, 1, 35, [.b (.slice none 0 0), .b (.slice none 0 0), vI 0, vI 0, vI 0, vI 0, vI 0, .b (.slice none 0 0)]⟩, ⟨2, 2, 35, [.ref 4 0 d.cells.length, .ref 5 0 d.waits.length, vI d.room, vI d.left, vI (turn), vI (trP q turn (i + 1)), vI (0), .ref 3 0 20]⟩, ⟨3, 3, 9, ((ay d.cells).map vS)⟩, ⟨4, 4, 9, (d.cells.map vS)⟩, ⟨5, 5, 110, (d.waits.flatMap cWt)⟩, ⟨6, 6, 97, ((fsP q (i + 1)).flatMap cFr)⟩]
    · have hq2 : (q i).2 = true := by assumption
      have hnl : ¬ turn < (q i).1.turn := by assumption
      have e1 := zD q (i := i) (by omega)
      rw [show fP q i = (q i).1 by unfold fP; rw [if_pos hq2]] at e1
      have e2 : trP q turn (i + 1) = trP q turn i := by rw [hts, if_neg (fun h => hc h.2)]
      refine Rnd.normal (i + 1) ⟨by omega, by unfold dL; rw [hno, hlate, decide_eq_false hnl, Bool.and_false]; rfl⟩ (by omega) ?_
      rw [af (x := (i : Int) + 1) (by omega) (by omega), FT (by omega), ← e1, ← e2]
      exact kp [⟨0, 0, 33, [.val d.cells.length (d.cells.map vS), .val d.waits.length (d.waits.flatMap cWt), vI d.room, vI d.left]⟩, ⟨1, 1, 35, [.b (.slice none 0 0), .b (.slice none 0 0), vI 0, vI 0, vI 0, vI 0, vI 0, .b (.slice none 0 0)]⟩, ⟨2, 2, 35, [.ref 4 0 d.cells.length, .ref 5 0 d.waits.length, vI d.room, vI d.left, vI (turn), vI (trP q turn (i + 1)), vI (0), .ref 3 0 20]⟩, ⟨3, 3, 9, ((ay d.cells).map vS)⟩, ⟨4, 4, 9, (d.cells.map vS)⟩, ⟨5, 5, 110, (d.waits.flatMap cWt)⟩, ⟨6, 6, 97, ((fsP q (i + 1)).flatMap cFr)⟩]
    obtain rfl : i = 20 := by omega
    unfold xX
    have hcells := Kq q hqi
    generalize fsP q 20 = fs at hli hcells ⊢
    obtain ⟨V, hV⟩ : ∃ V, V = trP q turn 20 := ⟨_, rfl⟩
    rw [← hV, if_neg (show ¬ (turn = 0 ∨ dL (BR q turn) 20 = true) from fun h => by rcases h with h | h; exact absurd h (by assumption); rw [hno] at h; cases h)]
    generalize hR : rdP fs turn 21 0 0 (ay d.cells) = R
    refine W.loop (fun x : RdU => ⟨[.any, .any, .ptr 0 0, vB false, .ptr 1 0, .any, .any, .any, .val 20 (fs.flatMap cFr), .any, .any, .any, vI x.above, .any, .any, .any, .any, .any, .any, .any, .any, .any, .any, .any, .any, .any, .any, .any, .any, .any, .any, .any, .any, .any, .any, .any, .any, .any, .any, .any, .any, .any, .any, .any, .any, .any, .any, .any, .any, .any, .any, .any, .any, .any, .any, .any, .any, .any, .any, .any, .any, .any, .any, .any, .any, .any, .any, .any, .any, .any, .any, .any, .any, .any, .any, .any, .any, .any, .any, .any, .any, .any, .any, .any, .any, .any, .any, .any, .any, .any, .any, .any, .any, .any, .any, .any, .any, .any, .any, .any, .any, .any, .any, .any, .any, .any, .any, .any, .any, .any, .any, .any, .any, .any, .any, .any, .any, .any, .any, .any, .any, .any, .any, .any, .any, .any, .any, .any, .any, .any, .any, .any, .any, .any, .any, .any, .any, .any], aZ [(0, 35, [.b (.slice none 0 0), .b (.slice none 0 0), vI 0, vI 0, vI 0, vI 0, vI 0, .b (.slice none 0 0)]), (1, 35, [.ref 3 0 d.cells.length, .ref 4 0 d.waits.length, vI d.room, vI d.left, vI turn, vI (V), vI (x.next), .ref 2 0 20]), (2, 9, x.pages.map vS), (3, 9, d.cells.map vS), (4, 110, d.waits.flatMap cWt)]⟩)
      (fun x => x.next ≤ 20 ∧ x.pages.length = 20 ∧ 21 ≤ x.next + x.fuel ∧ rdP fs turn x.fuel x.next x.above x.pages = R) (fun x => 20 - x.next) ⟨0, 0, ay d.cells, 21⟩ ?wk2 ⟨Nat.zero_le _, hp20, Nat.le_refl _, hR⟩ (fun x hx => ?_)
    case wk2 => exact kp [⟨1, 0, 35, [.b (.slice none 0 0), .b (.slice none 0 0), vI 0, vI 0, vI 0, vI 0, vI 0, .b (.slice none 0 0)]⟩, ⟨2, 1, 35, [.ref 3 0 d.cells.length, .ref 4 0 d.waits.length, vI d.room, vI d.left, vI turn, vI (V), vI (0), .ref 2 0 20]⟩, ⟨3, 2, 9, ((ay d.cells).map vS)⟩, ⟨4, 3, 9, (d.cells.map vS)⟩, ⟨5, 4, 110, (d.waits.flatMap cWt)⟩]
    obtain ⟨hx1, hx2, hx3, hx4⟩ := hx
    have hgr := MO fs turn x.above x.next hli hx1
    have hm := D9 (fs := fs) (turn := turn) (above := x.above) (place := x.next) (20 - x.next) x.next (Nat.le_refl _)
    obtain ⟨k, hk⟩ : ∃ k, x.fuel = k + 1 := ⟨x.fuel - 1, by omega⟩
    rw [hk, rdP] at hx4
    generalize grpP fs turn x.above x.next (20 - x.next) x.next = m at hgr hm hx4
    obtain ⟨L, hL⟩ : ∃ L, L = (fs.drop x.next).take m := ⟨_, rfl⟩
    have hLm : L.length = m := by rw [hL, List.length_take, List.length_drop]; omega
    have hLc : ∀ k, k < L.length → 0 ≤ (L.getD k fr0).cell ∧ (L.getD k fr0).cell ≤ 19 := fun k hk => by
      refine hcells _ ?_
      have := fV (d := fr0) hk
      rw [hL] at this ⊢
      exact List.mem_of_mem_drop (List.mem_of_mem_take this)
    have hL0 : 0 < m → (L.getD 0 fr0) = fs.getD x.next fr0 := fun h => by
      rw [hL, List.getD_eq_getElem?_getD, List.getElem?_take_of_lt h, List.getElem?_drop, Nat.add_zero, ← List.getD_eq_getElem?_getD]
    rw [← hL] at hgr hx4
    have hct := vZ (f := 79) (by kernel_rfl) (fun s => decide (1100 < s.size)) Qi x.pages (by omega)
    rw [hx2] at hct
    repeat' first | refine sS ?_ | (with_reducible refine MF ?_ ?_) | ((with_reducible show aC ..); first | refine cV rfl rfl rfl rfl hct ?_ | refine cR rfl rfl rfl rfl hgr ?_) | refine sO (fun K' hK' => ?_) | (refine sE hK' ?_; clear hK') | (refine sD (fun hc => ?_) (fun hc => ?_) <;> try exact sZ hc) | refine sU ?_ ?_ | exact sX | ((with_reducible first | refine En.ret ?_ | refine En.normal ?_); simp only [go_sem, Nat.reduceAdd, Nat.reduceEqDiff, Nat.reduceLT, Nat.reduceLeDiff, bU]) | (simp only [go_sem, Nat.reduceAdd, Nat.reduceMul, Nat.reduceEqDiff, Nat.reduceLT, Nat.reduceLeDiff, bU]; (all_goals fail_if_success show False)) | fail
    · rw [if_pos (by omega)] at hx4
      subst hx4
      rw [if_pos hc]
      refine Weak.trans (Weak.none (k := 10) (t := 9) (by simp [upd])) (Weak.trans (Weak.none (k := 11) (t := 110) (by simp [upd])) (Weak.trans (Weak.none (k := 12) (t := 9) (by simp [upd])) ?_))
      exact kp [⟨10, 0, 9, []⟩, ⟨11, 1, 110, []⟩, ⟨12, 2, 9, []⟩]
    · rw [if_pos (by omega)] at hx4
      subst hx4
      rw [if_neg (by rw [hc]; decide)]
      exact Weak.intro [⟨3, 0, 9, (d.cells.map vS)⟩, ⟨4, 1, 110, (d.waits.flatMap cWt)⟩, ⟨2, 2, 9, (x.pages.map vS)⟩] (by simp) (by simp) (by intro e he; simp only [List.mem_cons, List.not_mem_nil, or_false] at he; rcases he with rfl | rfl | rfl <;> refine ⟨_, by simp only [upd, if_true, if_false, Nat.reduceEqDiff]; rfl, ?_⟩ <;> first | (simp [kap]; done) | (refine bC ?_; first | exact bn | exact bJ | exact flat_nil | exact zy | (repeat' with_reducible first | exact flat_nil | exact dE | exact bf | exact bD | refine Flat.cons ?_ ?_); done)) rfl (by simp [All2, vw, vwA, vwC, kap, ax, hx2]) (fun _ h => h.elim)
    rw [if_neg (by omega)] at hx4
    refine W.loop (fun j : Nat => ⟨[.any, .any, .ptr 0 0, vB false, .ptr 1 0, .any, .any, .any, .val 20 (fs.flatMap cFr), .any, .any, .any, vI (L.getD 0 fr0).tries, .any, .any, .any, .any, .any, .any, .any, .any, .any, .any, .any, .any, .any, .any, .any, .any, .any, .any, .any, .any, .any, .any, .any, .any, .any, .any, .any, .any, .any, .any, .any, .any, .any, .any, .any, .any, .any, .any, .any, .any, .any, .any, .any, .any, .any, .any, .any, .any, .any, .any, .any, .any, .any, .any, .any, .any, .any, .any, .any, .any, .any, .any, .any, .any, .any, .any, .any, .any, .any, .any, .any, .any, .any, .any, .any, .any, .any, .any, .any, .any, .any, .any, .any, .any, .any, .any, .any, .any, .any, .any, .any, .any, .any, .any, .any, .any, .any, .any, .any, .any, .any, .any, .any, .any, .any, .any, .val m (L.flatMap cFr), vI m, vI j, .any, .any, .any, .any, .any, .any, .any, .any, .any, .any, .any, .any, .any, .any, .any, .any], aZ [(0, 35, [.b (.slice none 0 0), .b (.slice none 0 0), vI 0, vI 0, vI 0, vI 0, vI 0, .b (.slice none 0 0)]), (1, 35, [.ref 3 0 d.cells.length, .ref 4 0 d.waits.length, vI d.room, vI d.left, vI turn, vI (V), vI (((x.next + m : Nat) : Int)), .ref 2 0 20]), (2, 9, (nC x.pages (L.take j)).map vS), (3, 9, d.cells.map vS), (4, 110, d.waits.flatMap cWt)]⟩) (fun j => j ≤ m) (fun j => m - j) 0 ?wk3 (Nat.zero_le _) (fun j hj => ?_)
    case wk3 =>
      rw [af (x := (x.next : Int) + m) (by omega) (by omega), show (x.next : Int) + m = ((x.next + m : Nat) : Int) from rfl]
      exact kp [⟨0, 0, 35, [.b (.slice none 0 0), .b (.slice none 0 0), vI 0, vI 0, vI 0, vI 0, vI 0, .b (.slice none 0 0)]⟩, ⟨1, 1, 35, [.ref 3 0 d.cells.length, .ref 4 0 d.waits.length, vI d.room, vI d.left, vI turn, vI (V), vI (((x.next + m : Nat) : Int)), .ref 2 0 20]⟩, ⟨2, 2, 9, ((nC x.pages (L.take 0)).map vS)⟩, ⟨3, 3, 9, (d.cells.map vS)⟩, ⟨4, 4, 110, (d.waits.flatMap cWt)⟩]
    have hpl : (nC x.pages (L.take j)).length = 20 := by rw [o6]; exact hx2
    by_cases hjl : j < L.length
    · have hdj := zx hjl
      have hcj := hLc j hjl
      have e : nC x.pages (L.take (j + 1)) = (nC x.pages (L.take j)).set (L.getD j fr0).cell.toNat (L.getD j fr0).text := by
        unfold nC
        rw [List.take_add_one, List.getElem?_eq_getElem hjl, List.foldl_append, List.getD_eq_getElem?_getD, List.getElem?_eq_getElem hjl]
        rfl
      repeat' first | refine sS ?_ | refine sO (fun K' hK' => ?_) | (refine sE hK' ?_; clear hK') | (refine sD (fun hc => ?_) (fun hc => ?_) <;> try exact sZ hc) | refine sU ?_ ?_ | exact sX | (simp only [go_sem, Nat.reduceAdd, Nat.reduceMul, Nat.reduceEqDiff, Nat.reduceLT, Nat.reduceLeDiff, hdj, List.take_succ_cons, List.take_zero, List.length_cons]; (all_goals fail_if_success show False)) | fail
      refine Rnd.normal (j + 1) (by omega) (by omega) ?_
      rw [af (x := (j : Int) + 1) (by omega) (by omega), dm, ← e]
      exact kp [⟨0, 0, 35, [.b (.slice none 0 0), .b (.slice none 0 0), vI 0, vI 0, vI 0, vI 0, vI 0, .b (.slice none 0 0)]⟩, ⟨1, 1, 35, [.ref 3 0 d.cells.length, .ref 4 0 d.waits.length, vI d.room, vI d.left, vI turn, vI (V), vI (((x.next + m : Nat) : Int)), .ref 2 0 20]⟩, ⟨2, 2, 9, ((nC x.pages (L.take (j + 1))).map vS)⟩, ⟨3, 3, 9, (d.cells.map vS)⟩, ⟨4, 4, 110, (d.waits.flatMap cWt)⟩]
    · repeat' first | refine sS ?_ | refine sO (fun K' hK' => ?_) | (refine sE hK' ?_; clear hK') | (refine sD (fun hc => ?_) (fun hc => ?_) <;> try exact sZ hc) | (simp only [go_sem]; (all_goals fail_if_success show False)) | fail
      rw [show L.take j = L from List.take_of_length_le (by omega)]
      refine Rnd.normal ⟨x.next + m, (L.getD 0 fr0).tries, nC x.pages L, k⟩ ⟨by dsimp only; omega, by dsimp only; rw [o6]; exact hx2, by dsimp only; omega, by dsimp only; rw [hL0 (by omega)]; exact hx4⟩ (by dsimp only; omega) ?_
      exact kp [⟨0, 0, 35, [.b (.slice none 0 0), .b (.slice none 0 0), vI 0, vI 0, vI 0, vI 0, vI 0, .b (.slice none 0 0)]⟩, ⟨1, 1, 35, [.ref 3 0 d.cells.length, .ref 4 0 d.waits.length, vI d.room, vI d.left, vI turn, vI (V), vI (((x.next + m : Nat) : Int)), .ref 2 0 20]⟩, ⟨2, 2, 9, ((nC x.pages L).map vS)⟩, ⟨3, 3, 9, (d.cells.map vS)⟩, ⟨4, 4, 110, (d.waits.flatMap cWt)⟩]
  · have e : bV d = (bU, false) := by unfold bV; rw [if_neg hd]
    rw [e]
    generalize dkOk d = B at hok hd
    cases B
    · refine stO Tryz.func31 [.cell 2 35, .tmp 3] 138 rfl rfl rfl ?_
      repeat' first | refine sS ?_ | ((with_reducible show aC ..); refine cF rfl rfl rfl rfl hok ?_) | refine sO (fun K' hK' => ?_) | refine sY ?_ | (refine sE hK' ?_; clear hK') | (refine sD (fun hc => ?_) (fun hc => ?_) <;> try exact sZ hc) | ((with_reducible first | refine En.ret ?_ | refine En.normal ?_); simp only [go_sem, Nat.reduceAdd, Nat.reduceEqDiff, Nat.reduceLT, Nat.reduceLeDiff, bU]) | (simp only [go_sem, Nat.reduceAdd, Nat.reduceMul, Nat.reduceEqDiff, Nat.reduceLT, Nat.reduceLeDiff]; (all_goals fail_if_success show False)) | fail
      refine Weak.trans (Weak.none (k := 5) (t := 9) (by simp [upd])) (Weak.trans (Weak.none (k := 6) (t := 110) (by simp [upd])) (Weak.trans (Weak.none (k := 7) (t := 9) (by simp [upd])) ?_))
      exact kp [⟨5, 0, 9, []⟩, ⟨6, 1, 110, []⟩, ⟨7, 2, 9, []⟩]
    · have hd' : 0 < d.waits.length := Nat.pos_of_ne_zero fun h => hd ⟨rfl, h⟩
      refine stO Tryz.func31 [.cell 2 35, .tmp 3] 138 rfl rfl rfl ?_
      repeat' first | refine sS ?_ | ((with_reducible show aC ..); refine cF rfl rfl rfl rfl hok ?_) | refine sO (fun K' hK' => ?_) | (refine sE hK' ?_; clear hK') | (refine sD (fun hc => ?_) (fun hc => ?_) <;> try exact sZ hc) | ((with_reducible first | refine En.ret ?_ | refine En.normal ?_); simp only [go_sem, Nat.reduceAdd, Nat.reduceEqDiff, Nat.reduceLT, Nat.reduceLeDiff, bU]) | (simp only [go_sem, Nat.reduceAdd, Nat.reduceMul, Nat.reduceEqDiff, Nat.reduceLT, Nat.reduceLeDiff]; (all_goals fail_if_success show False)) | fail
      refine Weak.trans (Weak.none (k := 5) (t := 9) (by simp [upd])) (Weak.trans (Weak.none (k := 6) (t := 110) (by simp [upd])) (Weak.trans (Weak.none (k := 7) (t := 9) (by simp [upd])) ?_))
      exact kp [⟨5, 0, 9, []⟩, ⟨6, 1, 110, []⟩, ⟨7, 2, 9, []⟩]
end Go.Proofs.YtknciobaifdafaaGreatDoor.T
set_option linter.unusedVariables false
set_option maxRecDepth 100000
set_option maxHeartbeats 4000000
set_option linter.unusedSimpArgs false
namespace Go.Proofs.YtknciobaifdafaaGreatDoor.T
open Go Go.Pv Go.Proofs.YtknciobaifdafaaGreatDoor.EF
theorem iK (s : Stor) (h1 : s.disk.cells.length ≤ 2000000) (h2 : s.disk.waits.length ≤ 2000000) (h3 : s.pages.length ≤ 2000000) : Ok Tryz.prog 27 [aN s] (vB (mG s)) [] := by
  have hrd := gU s.disk h1 h2
  have hpg := xu s.disk
  unfold mG
  generalize bV s.disk = r at hrd hpg ⊢
  obtain ⟨⟨⟨c, ws, room, left⟩, turn, tries, next, pages⟩, rb⟩ := r
  dsimp only at hpg
  have heq := MN s.pages pages h3 (by omega)
  refine stO Tryz.func27 [.tmp 2] 40 rfl rfl rfl ?_
  repeat' first | refine sS ?_ | ((with_reducible show aC ..); first | refine cV rfl rfl rfl rfl heq ?_ | refine cF rfl rfl rfl rfl (Cm _ _ _) ?_ | refine cR rfl rfl rfl rfl hrd ?_) | refine sO (fun K' hK' => ?_) | refine sY ?_ | (refine sI (fun hg => ?_) (fun hg K' hK' => ?_) <;> try exact sZ hg) | (refine sE hK' ?_; clear hK') | ((with_reducible first | refine En.ret ?_ | refine En.normal ?_); simp only [go_sem, Nat.reduceAdd, Nat.reduceMul]) | (simp only [go_sem, Nat.reduceAdd, Nat.reduceMul, Nat.reduceEqDiff, Nat.reduceLT, Nat.reduceLeDiff]; (all_goals fail_if_success show False)) | fail
  all_goals refine Out.flat' (congrArg Value.bool ?_)
  all_goals symm
  all_goals first
    | (rw [decide_eq_false_iff_not]; intro h; omega)
    | (rw [decide_eq_false_iff_not]; simp; done)
    | (rw [decide_eq_decide]; exact ⟨fun h => h.2.2.2.2, fun h => ⟨by omega, by omega, by omega, by omega, h⟩⟩)
end Go.Proofs.YtknciobaifdafaaGreatDoor.T
