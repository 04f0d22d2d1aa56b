/- The laws' comparisons of texts, disks and stores. -/
import Derived.Test.YtknciobaifdafaaGreatDoorQEZ
import Derived.Test.YtknciobaifdafaaGreatDoorQD
import Derived.Laws.StructEq
import Derived.ChangeKeysEq
set_option linter.unusedVariables false
set_option maxRecDepth 100000
set_option maxHeartbeats 4000000
set_option linter.unusedSimpArgs false
namespace Go.Proofs.YtknciobaifdafaaGreatDoor.T
open Go Go.Pv Go.Proofs.YtknciobaifdafaaGreatDoor.EF
theorem dW (a b : List ByteArray) (ha : a.length ≤ 2000000) (hb : b.length ≤ 2000000) :
    Ok Tryz.prog 29 [.val a.length (a.map vS), .val b.length (b.map vS)] (vB (decide (a = b))) [] := by
  have ht : ∀ i, i < a.length → a.length = b.length → (a.getD i ByteArray.empty ≠ b.getD i ByteArray.empty) → a ≠ b := fun i h1 h2 h3 e => h3 (by rw [e])
  refine stO Tryz.func29 [.tmp 4] 26 rfl rfl rfl ?_
  repeat' first | refine sS ?_ | refine sO (fun K' hK' => ?_) | (refine sE hK' ?_; clear hK') | (refine sD (fun hc => ?_) (fun hc => ?_) <;> try exact sZ hc) | ((with_reducible first | refine En.ret ?_ | refine En.normal ?_); simp only [go_sem]) | (simp only [go_sem]; (all_goals fail_if_success show False)) | fail
  · exact Out.flat' (by rw [decide_eq_false (fun e => hc (by rw [e]))])
  refine W.loop (fun i : Nat => ⟨[.val a.length (a.map vS), .val b.length (b.map vS), .any, .any, .any, vI i, .any, .any, .any, .any, .any, .any, .any, .any, .any, .any, .any, .any, .any, .any, .any, .any, .any, .any, .any, .any], bM⟩) (fun i => i ≤ a.length ∧ ∀ k, k < i → a.getD k ByteArray.empty = b.getD k ByteArray.empty) (fun i => a.length - i) 0 ?wk0 ⟨Nat.zero_le _, fun k hk => absurd hk (Nat.not_lt_zero _)⟩ (fun i hi => ?_)
  case wk0 => exact kp []
  obtain ⟨hi, hall⟩ := hi
  repeat' first | refine sS ?_ | refine sN ?_ ?_ | refine sO (fun K' hK' => ?_) | refine yA (fun K' hA' => ?_) | ((with_reducible show W _ _ (.region 6 _ _) _ _); refine sV 9 ?_) | (refine sE hK' ?_; clear hK') | (refine sE hA' ?_; clear hA') | (refine sD (fun hc => ?_) (fun hc => ?_) <;> try exact sZ hc) | refine sU ?_ ?_ | exact sX | ((with_reducible first | refine En.ret ?_ | refine En.normal ?_); simp only [go_sem]) | (simp only [go_sem]; (all_goals fail_if_success show False)) | fail
  · exact Out.flat' (by rw [decide_eq_false (fun e => hc (by rw [e]))])
  · refine Rnd.normal (i + 1) ⟨by omega, fun k hk => ?_⟩ (by omega) ?_
    · by_cases e : k = i
      · rw [e]; exact hc
      · exact hall k (by omega)
    · rw [af (x := (i : Int) + 1) (by omega) (by omega)]
      exact kp []
  · refine Out.flat' ?_
    rw [decide_eq_true]
    refine List.ext_getElem (by omega) fun k h1 h2 => ?_
    have := hall k (by omega)
    rwa [← jB h1, ← jB h2] at this
theorem IZ : Tryz.prog.underlying 110 = some (.struct (Tryz.prog.fieldsOf 110)) := by kernel_rfl
theorem NP : (Tryz.prog.fieldsOf 110).toList = [⟨"At", 3, 0, false, "", "", 0⟩, ⟨"Text", 9, 1, false, "", "", 8⟩] := by kernel_rfl
theorem Pg {o : Oper} {st : St} {xo yo : Operand} {yt : TypeId} {K : PV → Mem → Prop} {a b : Int} {s u : ByteArray} (ho : o.op = .binOp .neq 110 xo yo yt) (hx : St.eval st xo = .agg [vI a, vS s]) (hy : St.eval st yo = .agg [vI b, vS u]) (hK : K (vB (!decide ((⟨a, s⟩ : Wt) = ⟨b, u⟩))) st.mem) : dX Tryz.prog o st K := by
  refine ⟨by rw [ho]; rfl, ?_, .bool (!decide ((⟨a, s⟩ : Wt) = ⟨b, u⟩)), fun w => ?_, hK⟩
  · rw [ho]
    simp [Op.operands, hx, hy, isB, isB0]
  · have e : decide ((⟨a, s⟩ : Wt) = ⟨b, u⟩) = (decide (a = b) && decide (s = u)) := by
      rw [Bool.eq_iff_iff]; simp
    unfold execOp
    simp only [ho, hx, hy, unb, unb0, List.map_cons, List.map_nil]
    simp only [Sem.run_bind]
    rw [run_eqGuard_agg w _ _ _ _ _ _ (by kernel_rfl), Result.andThen_ok, run_neq_struct, run_equalIn_struct w 9999 _ _ _ IZ (by kernel_rfl), NP]
    simp only [Op.eqFields, Sem.run_bind, Sem.run_ite]
    rw [if_pos (by decide), run_part_plain w (by kernel_rfl) (v := .int .i64 a) rfl, Result.andThen_ok, run_part_plain w (by kernel_rfl) (v := .int .i64 b) rfl, Result.andThen_ok, run_equalIn_int w 9998 _ _ .i64 _ _ (by kernel_rfl), Result.andThen_ok]
    by_cases h1 : a = b
    · rw [if_neg (by simp [h1]), if_pos (by decide), run_part_plain w (by kernel_rfl) (v := .string s) rfl, Result.andThen_ok, run_part_plain w (by kernel_rfl) (v := .string u) rfl, Result.andThen_ok, run_equalIn_string w 9998 _ _ _ (by kernel_rfl), Result.andThen_ok, bytes_eq]
      by_cases h2 : s = u
      · simp [h1, h2]
      · simp [h1, h2]
    · rw [if_pos (by simp [h1])]
      simp [h1]
theorem G8 {l : List Wt} {k : Nat} (h : k < l.length) : l[k] = l.getD k wt0 := by simp [h]
theorem I4 (a b : List Wt) (ha : a.length ≤ 2000000) (hb : b.length ≤ 2000000) : Ok Tryz.prog 82 [vWts a, vWts b] (vB (decide (a = b))) [] := by
  refine stO Tryz.func82 [.tmp 4] 26 rfl rfl rfl ?_
  repeat' first | refine sS ?_ | refine sO (fun K' hK' => ?_) | (refine sE hK' ?_; clear hK') | (refine sD (fun hc => ?_) (fun hc => ?_) <;> try exact sZ hc) | ((with_reducible first | refine En.ret ?_ | refine En.normal ?_); simp only [go_sem]) | (simp only [go_sem]; (all_goals fail_if_success show False)) | fail
  · exact Out.flat' (by rw [decide_eq_false (fun e => hc (by rw [e]))])
  refine W.loop (fun i : Nat => ⟨[vWts a, vWts b, .any, .any, .any, vI i, .any, .any, .any, .any, .any, .any, .any, .any, .any, .any, .any, .any, .any, .any, .any, .any, .any, .any, .any, .any], bM⟩) (fun i => i ≤ a.length ∧ ∀ k, k < i → a.getD k wt0 = b.getD k wt0) (fun i => a.length - i) 0 ?wk0 ⟨Nat.zero_le _, fun k hk => absurd hk (Nat.not_lt_zero _)⟩ (fun i hi => ?_)
  case wk0 => exact kp []
  obtain ⟨hi, hall⟩ := hi
  by_cases hil : i < a.length
  · have hd := dG hil
    have hd2 := dG (l := b) (k := i) (by omega)
    repeat' first | ((with_reducible apply Pg); (case ho => exact rfl); (case hx => exact rfl); (case hy => exact rfl); (case' hK => skip)) | refine sS ?_ | refine sO (fun K' hK' => ?_) | refine yA (fun K' hA' => ?_) | ((with_reducible show W _ _ (.region 6 _ _) _ _); refine sV 9 ?_) | (refine sE hK' ?_; clear hK') | (refine sE hA' ?_; clear hA') | (refine sD (fun hc => ?_) (fun hc => ?_) <;> try exact sZ hc) | refine sU ?_ ?_ | exact sX | ((with_reducible first | refine En.ret ?_ | refine En.normal ?_); simp only [go_sem]) | (simp only [go_sem, Nat.reduceLeDiff, hd, hd2, List.take_succ_cons, List.take_zero, List.length_cons]; (all_goals fail_if_success show False)) | fail
    · have hne : ¬ a.getD i wt0 = b.getD i wt0 := by
        generalize a.getD i wt0 = x at hc ⊢
        generalize b.getD i wt0 = y at hc ⊢
        cases x; cases y
        simpa using hc
      exact Out.flat' (by rw [decide_eq_false (fun e => hne (by rw [e]))])
    · have heq : a.getD i wt0 = b.getD i wt0 := by
        clear hall
        generalize a.getD i wt0 = x at hc ⊢
        generalize b.getD i wt0 = y at hc ⊢
        cases x; cases y
        simpa using hc
      refine Rnd.normal (i + 1) ⟨by omega, fun k hk => ?_⟩ (by omega) ?_
      · by_cases e : k = i
        · rw [e]; exact heq
        · exact hall k (by omega)
      · rw [af (x := (i : Int) + 1) (by omega) (by omega)]
        exact kp []
  · repeat' first | refine sS ?_ | refine sO (fun K' hK' => ?_) | (refine sE hK' ?_; clear hK') | (refine sD (fun hc => ?_) (fun hc => ?_) <;> try exact sZ hc) | ((with_reducible first | refine En.ret ?_ | refine En.normal ?_); simp only [go_sem]) | (simp only [go_sem]; (all_goals fail_if_success show False)) | fail
    refine Out.flat' ?_
    rw [decide_eq_true]
    refine List.ext_getElem (by omega) fun k h1 h2 => ?_
    have := hall k (by omega)
    rwa [← G8 h1, ← G8 h2] at this
theorem Dy (a b : Dk) (h1 : a.cells.length ≤ 2000000) (h2 : a.waits.length ≤ 2000000) (h3 : b.cells.length ≤ 2000000) (h4 : b.waits.length ≤ 2000000) : Ok Tryz.prog 33 [vDk a, vDk b] (vB (decide (a = b))) [] := by
  obtain ⟨c1, w1, r1, l1⟩ := a
  obtain ⟨c2, w2, r2, l2⟩ := b
  dsimp only at h1 h2 h3 h4 ⊢
  have e1 := dW c1 c2 h1 h3
  have e2 := I4 w1 w2 h2 h4
  have eD : decide ((⟨c1, w1, r1, l1⟩ : Dk) = ⟨c2, w2, r2, l2⟩) = (decide (c1 = c2) && decide (w1 = w2) && decide (r1 = r2) && decide (l1 = l2)) := by
    rw [Bool.eq_iff_iff]; simp [and_assoc]
  rw [eD]
  generalize decide (c1 = c2) = x1 at e1 ⊢
  generalize decide (w1 = w2) = x2 at e2 ⊢
  cases x1
  · refine stO Tryz.func33 [.tmp 4] 31 rfl rfl rfl ?_
    repeat' first | refine sS ?_ | ((with_reducible show aC ..); refine cF rfl rfl rfl rfl e1 ?_) | refine sO (fun K' hK' => ?_) | refine sY ?_ | (refine sE hK' ?_; clear hK') | ((with_reducible first | refine En.ret ?_ | refine En.normal ?_); simp only [go_sem]) | (simp only [go_sem, Nat.reduceAdd, Nat.reduceMul, Nat.reduceEqDiff, Nat.reduceLT]; (all_goals fail_if_success show False)) | fail
    all_goals exact Out.flat' (by simp_all)
  · cases x2
    · refine stO Tryz.func33 [.tmp 4] 31 rfl rfl rfl ?_
      repeat' first | refine sS ?_ | ((with_reducible show aC ..); first | refine cF rfl rfl rfl rfl e1 ?_ | refine cF rfl rfl rfl rfl e2 ?_) | refine sO (fun K' hK' => ?_) | refine sY ?_ | (refine sE hK' ?_; clear hK') | ((with_reducible first | refine En.ret ?_ | refine En.normal ?_); simp only [go_sem]) | (simp only [go_sem, Nat.reduceAdd, Nat.reduceMul, Nat.reduceEqDiff, Nat.reduceLT]; (all_goals fail_if_success show False)) | fail
      all_goals exact Out.flat' (by simp_all)
    · refine stO Tryz.func33 [.tmp 4] 31 rfl rfl rfl ?_
      repeat' first | refine sS ?_ | ((with_reducible show aC ..); first | refine cF rfl rfl rfl rfl e1 ?_ | refine cF rfl rfl rfl rfl e2 ?_) | refine sO (fun K' hK' => ?_) | refine sY ?_ | (refine sI (fun hg => ?_) (fun hg K' hK' => ?_) <;> try exact sZ hg) | (refine sE hK' ?_; clear hK') | ((with_reducible first | refine En.ret ?_ | refine En.normal ?_); simp only [go_sem]) | (simp only [go_sem, Nat.reduceAdd, Nat.reduceMul, Nat.reduceEqDiff, Nat.reduceLT]; (all_goals fail_if_success show False)) | fail
      all_goals exact Out.flat' (by simp_all)
theorem iR (a b : Stor) (h1 : a.disk.cells.length ≤ 2000000) (h2 : a.disk.waits.length ≤ 2000000) (h3 : b.disk.cells.length ≤ 2000000) (h4 : b.disk.waits.length ≤ 2000000) (h5 : a.pages.length ≤ 2000000) (h6 : b.pages.length ≤ 2000000) : Ok Tryz.prog 25 [aN a, aN b] (vB (decide (a = b))) [] := by
  obtain ⟨d1, t1, y1, n1, p1⟩ := a
  obtain ⟨d2, t2, y2, n2, p2⟩ := b
  dsimp only at h1 h2 h3 h4 h5 h6 ⊢
  have e1 := Dy d1 d2 h1 h2 h3 h4
  have e2 := dW p1 p2 h5 h6
  have eD : decide ((⟨d1, t1, y1, n1, p1⟩ : Stor) = ⟨d2, t2, y2, n2, p2⟩) = (decide (d1 = d2) && decide (t1 = t2) && decide (y1 = y2) && decide (n1 = n2) && decide (p1 = p2)) := by
    rw [Bool.eq_iff_iff]; simp [and_assoc]
  rw [eD]
  generalize decide (d1 = d2) = x1 at e1 ⊢
  generalize decide (p1 = p2) = x2 at e2 ⊢
  cases x1
  · refine stO Tryz.func25 [.tmp 4] 38 rfl rfl rfl ?_
    repeat' first | refine sS ?_ | ((with_reducible show aC ..); refine cF rfl rfl rfl rfl e1 ?_) | refine sO (fun K' hK' => ?_) | refine sY ?_ | (refine sE hK' ?_; clear hK') | ((with_reducible first | refine En.ret ?_ | refine En.normal ?_); simp only [go_sem]) | (simp only [go_sem, Nat.reduceAdd, Nat.reduceMul, Nat.reduceEqDiff, Nat.reduceLT, Nat.reduceLeDiff]; (all_goals fail_if_success show False)) | fail
    all_goals exact Out.flat' (by simp_all)
  · refine stO Tryz.func25 [.tmp 4] 38 rfl rfl rfl ?_
    repeat' first | refine sS ?_ | ((with_reducible show aC ..); first | refine cF rfl rfl rfl rfl e1 ?_ | refine cF rfl rfl rfl rfl e2 ?_) | refine sO (fun K' hK' => ?_) | refine sY ?_ | (refine sI (fun hg => ?_) (fun hg K' hK' => ?_) <;> try exact sZ hg) | (refine sE hK' ?_; clear hK') | ((with_reducible first | refine En.ret ?_ | refine En.normal ?_); simp only [go_sem]) | (simp only [go_sem, Nat.reduceAdd, Nat.reduceMul, Nat.reduceEqDiff, Nat.reduceLT, Nat.reduceLeDiff]; (all_goals fail_if_success show False)) | fail
    all_goals exact Out.flat' (by simp_all)
theorem NQ (P : List ByteArray) (l : List Wt) (h1 : P.length ≤ 2000000) (h2 : l.length ≤ 2000000) (hw : ∀ k, k < l.length → 0 ≤ (l.getD k wt0).cell ∧ (l.getD k wt0).cell.toNat < P.length) : Ok Tryz.prog 44 [.val P.length (P.map vS), .val l.length (l.flatMap cWt)] (.ref 0 0 (aj P l).length) [(9, (aj P l).map vS)] := by
  refine stO Tryz.func44 [.tmp 4] 29 rfl rfl rfl ?_
  repeat' first | refine sS ?_ | refine sO (fun K' hK' => ?_) | (refine sE hK' ?_; clear hK') | refine sU ?_ ?_ | exact sX | (simp only [go_sem, Nat.reduceAdd, Nat.reduceMul, Nat.reduceEqDiff, Nat.reduceLT, Nat.reduceLeDiff]; (all_goals fail_if_success show False)) | fail
  refine W.loop (fun i : Nat => ⟨[.val P.length (P.map vS), .val l.length (l.flatMap cWt), .any, .any, .any, .ref 0 0 P.length, vI i, .any, .any, .any, .any, .any, .any, .any, .any, .any, .any, .any, .any, .any, .any, .any, .any, .any, .any, .any, .any, .any, .any], aZ [(0, 9, (aj P (l.take i)).map vS)]⟩) (fun i => i ≤ l.length ∧ (aj P (l.take i)).length = P.length) (fun i => l.length - i) 0 ?wk0 ⟨Nat.zero_le _, rfl⟩ (fun i hi => ?_)
  case wk0 => exact kp [⟨32800, 0, 9, (P.map vS)⟩]
  obtain ⟨hi, hlen⟩ := hi
  have hwi := hw i
  repeat' first | refine yQ ?_ | ((with_reducible show W _ _ (.region 5 _ _) _ _); refine dS 13 12 0 ?_) | refine sS ?_ | (with_reducible refine vN ?_ ?_) | (with_reducible refine qX ?_ ?_) | refine sO (fun K' hK' => ?_) | refine yA (fun K' hA' => ?_) | (refine sE hK' ?_; clear hK') | (refine sE hA' ?_; clear hA') | (refine sD (fun hc => ?_) (fun hc => ?_) <;> try exact sZ hc) | refine sU ?_ ?_ | exact sX | ((with_reducible first | refine En.ret ?_ | refine En.normal ?_); simp only [go_sem]) | (simp only [go_sem]; (all_goals fail_if_success show False)) | fail
  · refine Rnd.normal (i + 1) ⟨by omega, by rw [eQ (by omega), List.length_set]; exact hlen⟩ (by omega) ?_
    rw [af (x := (i : Int) + 1) (by omega) (by omega), eQ (by omega), dm]
    exact kp [⟨0, 0, 9, (((aj P (l.take i)).set (l.getD i wt0).cell.toNat (l.getD i wt0).text).map vS)⟩]
  · rw [show l.take i = l from List.take_of_length_le (by omega)] at *
    rw [hlen]
    exact kp [⟨0, 0, 9, ((aj P l).map vS)⟩]
end Go.Proofs.YtknciobaifdafaaGreatDoor.T
