/- Walks of the store's functions, part 7: frames read by the reference. -/
import Derived.Test.YtknciobaifdafaaGreatDoorQS0
import Derived.Test.YtknciobaifdafaaGreatDoorQS5
set_option linter.unusedVariables false
set_option maxRecDepth 100000
set_option maxHeartbeats 4000000
set_option linter.unusedSimpArgs false
namespace Go.Proofs.YtknciobaifdafaaGreatDoor.T
open Go Go.Pv Go.Proofs.YtknciobaifdafaaGreatDoor.EF
theorem cut58 (s : ByteArray) (hs : s.size ≤ 1000000) : Ok Tryz.prog 159 [vS s, .b (.int .u8 58), vI 1] (.val (cutL s 58 1).length ((cutL s 58 1).map vS)) [] := l1Cut_ok s 58 1 hs (by omega)
theorem cut32 (s : ByteArray) (hs : s.size ≤ 1000000) : Ok Tryz.prog 159 [vS s, .b (.int .u8 32), vI 5] (.val (cutL s 32 5).length ((cutL s 32 5).map vS)) [] := l1Cut_ok s 32 5 hs (by omega)
theorem wrap6 {a0 a1 a2 a3 a4 a5 : Nat} (h0 : a0 ≤ 1000000) (h1 : a1 ≤ 1000000) (h2 : a2 ≤ 1000000) (h3 : a3 ≤ 1000000) (h4 : a4 ≤ 1000000) (h5 : a5 ≤ 1000000) :
    IntKind.i64.wrap (IntKind.i64.wrap (IntKind.i64.wrap (IntKind.i64.wrap (IntKind.i64.wrap (IntKind.i64.wrap ((a0 : Int) + a1) + a2) + a3) + a4) + a5) + 6) = ((a0 + a1 + a2 + a3 + a4 + a5 + 6 : Nat) : Int) := by
  rw [wrap_id (x := (a0 : Int) + a1) (by omega) (by omega), wrap_id (x := (a0 : Int) + a1 + a2) (by omega) (by omega), wrap_id (x := (a0 : Int) + a1 + a2 + a3) (by omega) (by omega), wrap_id (x := (a0 : Int) + a1 + a2 + a3 + a4) (by omega) (by omega),
    wrap_id (x := (a0 : Int) + a1 + a2 + a3 + a4 + a5) (by omega) (by omega), wrap_id (by omega) (by omega)]
  omega
theorem Out.tupW (n : Int) (b : Bool) (x : Wt) {m : Mem} : Out Tryz.prog (.tup [vI n, vB b, vWt x]) [] (.tup [vI n, vB b, vWt x]) m := by
  exact Weak.flat rfl (by simp [All2, vw, vwA, vwC, clean_b, vS])
theorem l8Frame_ok2 (turn tries place cell : Int) (last : Bool) (text : ByteArray) (h1 : -1 ≤ turn ∧ turn ≤ 1000000000) (h2 : -1 ≤ tries ∧ tries ≤ 1000000000) (h3 : 0 ≤ place ∧ place ≤ 1000) (h4 : 0 ≤ cell ∧ cell ≤ 1000) (h5 : text.size ≤ 1000000) :
    Ok Tryz.prog 141 [vI turn, vI tries, vI place, vB last, .agg [vI cell, vS text]] (vS (frameB turn tries place cell last text)) [] := l8Frame_ok turn tries place last ⟨cell, text⟩ h1 h2 h3 h4 h5
theorem l8Get_ok (s : ByteArray) (turn place : Int) (hs : s.size ≤ 1000000) (h1 : -1 ≤ turn ∧ turn ≤ 1000000000) (h3 : 0 ≤ place ∧ place ≤ 1000) :
    Ok Tryz.prog 160 [vS s, vI turn, vI place] (.tup [vI (getOf s turn place).1, vB (getOf s turn place).2.1, vWt (getOf s turn place).2.2]) [] := by
  unfold getOf
  have hp := cutL_pos s 58 1
  have hz := Nat.le_trans (cutL_size s 58 1 0) hs
  have hy : ∀ k, ((partsOf s).getD k ByteArray.empty).size ≤ 1000000 := fun k => Nat.le_trans (cutL_size _ 32 5 k) hz
  have hl := cut32 _ hz
  rw [show cutL ((cutL s 58 1).getD 0 ByteArray.empty) 32 5 = partsOf s from rfl] at hl
  generalize partsOf s = l at hl hy ⊢
  refine Ok.walk Tryz.func160 rfl ?_; simp only [startSt, show Tryz.f160.ntmps = 113 from rfl, List.length_cons, List.length_nil, Nat.reduceAdd, Nat.reduceSub, List.replicate, List.cons_append, List.nil_append]
  have h6 : _ = (sizes6 l : Int) := wrap6 (hy 0) (hy 1) (hy 2) (hy 3) (hy 4) (hy 5)
  have hw : ∀ z : Int, 0 ≤ z ∧ z ≤ 1100 → IntKind.i64.wrap ((sizes6 l : Int) + z) = sizes6 l + z := fun z hz => by
    have : sizes6 l ≤ 7000000 := by unfold sizes6; have := hy 0; have := hy 1; have := hy 2; have := hy 3; have := hy 4; have := hy 5; omega
    rw [wrap_id (by omega) (by omega)]
  obtain ⟨F, hF⟩ : ∃ F : Int → Int → Int → Int → Bool → ByteArray → ByteArray, F = frameB := ⟨_, rfl⟩
  have hfr : ∀ (tries cell : Int) (last : Bool) (text : ByteArray), (-1 ≤ tries ∧ tries ≤ 1000000000) → (0 ≤ cell ∧ cell ≤ 1000) → text.size ≤ 1000000 → Ok Tryz.prog 141 [vI turn, vI tries, vI place, vB last, .agg [vI cell, vS text]] (vS (F turn tries place cell last text)) [] := fun tries cell last text a b c =>
    hF ▸ l8Frame_ok2 turn tries place cell last text h1 a h3 b c
  repeat' first | (with_reducible first | refine W.seq ?_ | refine W.region ?_ | refine W_ret ?_ | refine W_skip ?_ | refine Seq.normal ?_ | refine Seq.ret ?_ | refine aops_nil ?_ | refine aheadU_nil ?_ | refine load_strs ?_ ?_ | refine load_strs0 ?_ ?_) | ((with_reducible apply aops_callF); (case hg => exact rfl); (case ho => exact rfl); (case hc => exact rfl); (case hf => exact rfl); (case hok => first | exact cut58 s hs | exact hl | exact l1Num_ok _ (Nat.le_trans (hy _) (by decide)) | exact l1In_ok _ _ _ | exact hfr _ _ _ _ (by omega) (by omega) (by simp only [ByteArray.size_extract]; omega)); (case hcal => first | assumption | kernel_rfl); (case hcl => (with_reducible simp only [List.map_cons, List.map_nil, List.forall_mem_cons, St.eval, List.getD_cons_zero, List.getD_cons_succ, sh, shA, shC]); (repeat' with_reducible first | exact Cln.b _ | exact cln_strs | exact cln_wts | exact cln_nil | refine And.intro ?_ ?_ | refine Cln.agg ?_ | rw [List.forall_mem_cons])); (case' h => dsimp only [put, List.set])) | ((with_reducible apply aops_callR); (case hg => exact rfl); (case ho => exact rfl); (case hc => exact rfl); (case hf => exact rfl); (case hok => first | exact cut58 s hs | exact hl | exact l1Num_ok _ (Nat.le_trans (hy _) (by decide)) | exact l1In_ok _ _ _ | exact hfr _ _ _ _ (by omega) (by omega) (by simp only [ByteArray.size_extract]; omega)); (case hcal => first | assumption | kernel_rfl); (case hcl => (with_reducible simp only [List.map_cons, List.map_nil, List.forall_mem_cons, St.eval, List.getD_cons_zero, List.getD_cons_succ, sh, shA, shC]); (repeat' with_reducible first | exact Cln.b _ | exact cln_strs | exact cln_wts | exact cln_nil | refine And.intro ?_ ?_ | refine Cln.agg ?_ | rw [List.forall_mem_cons])); (case hfree => (intro q hq; simp only [List.length_nil] at hq; first | (simp [upd]; (try omega); done) | ((try simp only [rowsAt, impRows, List.map_nil]); (repeat rw [upd_ne _ _ (by omega)]) <;> rfl) | (simp only [upd]; (repeat' split) <;> first | rfl | omega))); (case hgo => simp [GOk, AOk, hok_strs]); (case hgr => first | (simp []; done) | (repeat' first | exact rows_strs | exact rows_wts | exact rows_none | refine List.forall_mem_cons.2 ⟨?_, ?_⟩)); (case' h => dsimp only [put, List.set])) | ((with_reducible refine aops_run ?_ (fun K' hK' => ?_)); exact rfl) | ((with_reducible refine aops_skip ?_ ?_); exact rfl; dsimp only [put, List.set]) | ((with_reducible apply aops_cons_if); (case hg => exact rfl); (case' h1 => (intro hg; (first | replace hg := beqT hg | replace hg := beqTf hg | replace hg := beqF hg | replace hg := beqFf hg); rw [hg]; (first | replace hg := of_decide_eq_true hg | replace hg := of_decide_eq_false hg | replace hg := ndT hg | replace hg := ndF hg | replace hg := nbT hg | replace hg := nbF hg | skip); (try (exfalso; omega)); all_goals (intro K' hK'))); (case' h2 => (intro hg; (first | replace hg := beqT hg | replace hg := beqTf hg | replace hg := beqF hg | replace hg := beqFf hg); rw [hg]; dsimp only [put, List.set]; (first | replace hg := of_decide_eq_true hg | replace hg := of_decide_eq_false hg | replace hg := ndT hg | replace hg := ndF hg | replace hg := nbT hg | replace hg := nbF hg | skip); (try (exfalso; omega))))) | ((with_reducible refine aheadU_run ?_ ?_ ?_ (fun K' hA' => ?_)); exact rfl; exact rfl; exact rfl) | ((with_reducible refine hA'.1 _ ?_); clear hA'; dsimp only [putL, List.set]) | ((with_reducible refine W.drawU (id := 14) (n := 5) mixed ?_ ?_ ?_ ?_); kernel_rfl; (simp only [List.length_cons, List.length_nil]; omega); (intro k h1 h2; first | rfl | ((try simp only []); (repeat rw [upd_ne _ _ (by omega)]) <;> rfl) | (simp only [upd]; (repeat' split) <;> first | rfl | omega)); dsimp only [List.take, List.drop]) | ((with_reducible refine W.drawU (id := 7) (n := 31) mixed ?_ ?_ ?_ ?_); kernel_rfl; (simp only [List.length_cons, List.length_nil]; omega); (intro k h1 h2; first | rfl | ((try simp only []); (repeat rw [upd_ne _ _ (by omega)]) <;> rfl) | (simp only [upd]; (repeat' split) <;> first | rfl | omega)); dsimp only [List.take, List.drop]) | ((with_reducible refine hK' _ _ ?_); clear hK'; dsimp only [put, List.set]) | ((with_reducible apply W_cond); (case hc => exact rfl); (case' h2 => (intro hc; replace hc := of_decide_eq_false hc)); (case' h1 => (intro hc; replace hc := of_decide_eq_true hc)); all_goals try (exfalso; first | omega | exact hc rfl | exact hc trivial | exact Bool.noConfusion hc)) | ((with_reducible apply W_cond); (case hc => exact rfl); (case' h2 => (intro hc; replace hc := ndF hc)); (case' h1 => (intro hc; replace hc := ndT hc)); all_goals try (exfalso; first | omega | exact hc rfl | exact hc trivial | exact Bool.noConfusion hc)) | ((with_reducible apply W_cond); (case hc => exact rfl); all_goals intro hc; all_goals try (exfalso; first | omega | exact hc rfl | exact hc trivial | exact Bool.noConfusion hc)) | (with_reducible first | refine And.intro ?_ ?_) | ((with_reducible first | show (_ : Int) < _ | show (_ : Int) ≤ _ | show (_ : Int) ≠ _ | show (_ : Nat) < _ | show (_ : Nat) ≤ _ | show (_ : Nat) ≠ _); omega) | ((with_reducible first | refine Ends.ret ?_ | refine Ends.normal ?_); simp only [aRes, show Tryz.f160.results.toList = [.tmp 6, .tmp 7, .cell 8 77] from rfl, aRess, aResV, oneOf, aLoad, loadPV_agg, List.getD_cons_zero, List.getD_cons_succ, upd, if_true, if_false, Nat.reduceEqDiff, List.drop_zero, List.take_succ_cons, List.take_zero, List.length_cons, List.length_nil, Nat.reduceAdd, true_and, Nat.reduceLeDiff, Nat.reduceLT, ti77]) | (simp only [aop, List.getElem?_cons_zero, List.getElem?_cons_succ, Option.isSome_some, Bool.and_true, St.eval, List.getD_cons_zero, List.getD_cons_succ, aBin, binI, binS, aUn, aLoad, loadPV_agg, aStore, aIndex, aLen, aBuiltin, aSlice, aBuild, cellsOf, storable, storeL, fillPV, getI, upd, addU, sh, shA, shC, rowsAt, impRows, Nat.mul_one, List.map_cons, List.map_nil, List.length_cons, List.length_nil, List.drop_zero, List.take_succ_cons, List.take_zero, List.set_cons_zero, List.set_cons_succ, List.all_cons, List.all_nil, Option.map_some, Option.map_none, Option.bind_some, Option.getD_some, if_true, if_false, Bool.false_eq_true, true_and, Nat.reduceAdd, Nat.reduceMul, Nat.reduceEqDiff, Nat.reduceLT, Nat.reduceLeDiff, Int.toNat_zero, Int.reduceToNat, Value.cells, Value.oneCell', and_self, Nat.zero_add, se22, sp77, ti77, ti9, us9]; (all_goals fail_if_success show False))
  · rw [show getL s turn place l = (0, false, wt0) by unfold getL; rw [if_pos (by omega)]]
    exact Out.tupW 0 false wt0
  · rw [show getL s turn place l = (0, false, wt0) by unfold getL; rw [if_neg (by omega), if_pos (.inl hg)]]
    exact Out.tupW 0 false wt0
  · rw [show getL s turn place l = (0, false, wt0) by unfold getL; rw [if_neg (by omega), if_pos (.inr (.inl hg))]]
    exact Out.tupW 0 false wt0
  · rw [show getL s turn place l = (0, false, wt0) by unfold getL; rw [if_neg (by omega), if_pos (.inr (.inr (.inl hg)))]]
    exact Out.tupW 0 false wt0
  · rw [h6, hw _ hg] at hc
    rw [show getL s turn place l = (0, false, wt0) by unfold getL; rw [if_neg (by omega), if_pos (.inr (.inr (.inr hc)))]]
    exact Out.tupW 0 false wt0
  all_goals try rw [h6] at *
  all_goals try rw [hw _ hg] at *
  · omega
  · rw [Int.toNat_natCast, show ((sizes6 l : Int) + numL (l.getD 5 ByteArray.empty).data.toList).toNat = sizes6 l + (numL (l.getD 5 ByteArray.empty).data.toList).toNat by omega, hF] at hc
    rw [show getL s turn place l = (0, false, wt0) by unfold getL; rw [if_neg (by omega), if_neg (by unfold numAt; omega)]; exact if_pos hc]
    exact Out.tupW 0 false wt0
  · rw [Int.toNat_natCast, show ((sizes6 l : Int) + numL (l.getD 5 ByteArray.empty).data.toList).toNat = sizes6 l + (numL (l.getD 5 ByteArray.empty).data.toList).toNat by omega] at *
    rw [hF] at hc
    unfold getL
    rw [if_neg (by omega), if_neg (by unfold numAt; omega), if_neg (fun h => h hc)]
    exact Out.tupW _ _ ⟨_, _⟩
end Go.Proofs.YtknciobaifdafaaGreatDoor.T
