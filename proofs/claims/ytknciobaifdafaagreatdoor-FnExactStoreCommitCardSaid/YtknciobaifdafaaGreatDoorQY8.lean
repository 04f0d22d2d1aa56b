/- Walks of the store's functions, part 26: the program ends a turn. -/
import Derived.Test.YtknciobaifdafaaGreatDoorQY4
import Derived.Test.YtknciobaifdafaaGreatDoorQY1
import Derived.Test.YtknciobaifdafaaGreatDoorQY7
import Derived.Test.YtknciobaifdafaaGreatDoorQS5
import Derived.Test.YtknciobaifdafaaGreatDoorQU1
set_option linter.unusedVariables false
set_option maxRecDepth 100000
set_option maxHeartbeats 4000000
set_option linter.unusedSimpArgs false
namespace Go.Proofs.YtknciobaifdafaaGreatDoor.T
open Go Go.Pv Go.Proofs.YtknciobaifdafaaGreatDoor.EF
def endI (s : Stor) (d : Dk) (done : Stor) (code : Int) : Stor × Int := if d.left = 0 ∨ code = 3 then (setDisk s d, 3) else (setDisk done d, code)
theorem end_ok (s : Stor) (d : Dk) (done : Stor) (code : Int) (h1 : d.cells.length ≤ 2000000) (h2 : d.waits.length ≤ 2000000) (h3 : s.pages.length ≤ 2000000) (h4 : done.pages.length ≤ 2000000) :
    Ok Tryz.prog 102 [vStor s, vDk d, vStor done, vI code] (.tup [vStorR (endI s d done code).1, vI (endI s d done code).2]) (rowsStor (endI s d done code).1) := by
  have hC1 := copyOfS_ok (setDisk s d) h1 h2 h3
  have hC2 := copyOfS_ok (setDisk done d) h1 h2 h4
  refine Ok.walk Tryz.func102 rfl ?_; simp only [startSt, show Tryz.f102.ntmps = 21 from rfl, List.length_cons, List.length_nil, Nat.reduceAdd, Nat.reduceSub, List.replicate, List.cons_append, List.nil_append]
  repeat' first | (with_reducible first | refine W.seq ?_ | refine W.region ?_ | refine W_ret ?_ | refine W_skip ?_ | refine Seq.normal ?_ | refine aops_nil ?_) | ((with_reducible apply aops_callR); (case hg => exact rfl); (case ho => exact rfl); (case hc => exact rfl); (case hf => exact rfl); (case hok => first | exact hC1 | exact hC2); (case hcal => first | assumption | kernel_rfl); (case hcl => (with_reducible simp only [List.map_cons, List.map_nil, List.forall_mem_cons, St.eval, List.getD_cons_zero, List.getD_cons_succ]); (repeat' with_reducible first | exact Cln.b _ | exact cln_strs | exact cln_wts | exact cln_nil | refine And.intro ?_ ?_ | refine Cln.agg ?_ | rw [List.forall_mem_cons])); (case hfree => (intro q hq; simp only [List.length_cons, List.length_nil] at hq; first | (simp [upd]; (try omega); done) | ((try simp only []); (repeat rw [upd_ne _ _ (by omega)]) <;> rfl) | (simp only [upd]; (repeat' split) <;> first | rfl | omega))); (case hgo => simp [GOk, AOk, HOk.b, HOk.ref]); (case hgr => first | (simp [HOk.b]; done) | (repeat' first | exact rows_strs | exact rows_wts | exact rows_none | refine List.forall_mem_cons.2 ⟨?_, ?_⟩)); (case' h => dsimp only [put, List.set])) | ((with_reducible refine aops_run ?_ (fun K' hK' => ?_)); exact rfl) | ((with_reducible refine hK' _ _ ?_); clear hK'; dsimp only [put, List.set]) | ((with_reducible apply W_cond); (case hc => exact rfl); (case' h2 => (intro hc; replace hc := of_decide_eq_false hc)); (case' h1 => (intro hc; replace hc := of_decide_eq_true hc)); all_goals try (exfalso; first | omega | exact hc rfl | exact hc trivial | exact Bool.noConfusion hc)) | ((with_reducible first | refine Ends.ret ?_ | refine Ends.normal ?_); simp only [aRes, show Tryz.f102.results.toList = [.cell 8 35, .tmp 9] from rfl, aRess, aResV, oneOf, aLoad, loadPV_agg, List.getD_cons_zero, List.getD_cons_succ, upd, if_true, if_false, Nat.reduceEqDiff, List.drop_zero, List.take_succ_cons, List.take_zero, List.length_cons, List.length_nil, Nat.reduceAdd, true_and, Nat.reduceLeDiff, Nat.reduceLT, ti35]) | (simp only [aop, shC_strs, shC_wts, Bool.and_true, St.eval, List.getD_cons_zero, List.getD_cons_succ, aBin, binI, aLoad, loadPV_one, loadPV_agg, aStore, aField, cellsOf, storable, storeL, upd, sh, shA, shC, rowsAt, impRows, Nat.mul_one, List.map_cons, List.map_nil, List.length_cons, List.length_nil, List.drop_zero, List.drop_succ_cons, List.take_succ_cons, List.take_zero, List.set_cons_zero, List.set_cons_succ, List.all_cons, List.all_nil, if_true, if_false, true_and, Nat.reduceAdd, Nat.reduceMul, Nat.reduceEqDiff, Nat.reduceLT, Nat.reduceLeDiff, Value.oneCell', Nat.zero_add, Nat.add_zero, fo33_3, fo35_0, ti3, ti33, ti35]; (all_goals fail_if_success show False))
  · rw [show endI s d done code = (setDisk s d, 3) from if_pos (.inl (by assumption))]
    exact Weak.intro [⟨114704, 0, 9, ((setDisk s d).disk.cells.map vS)⟩, ⟨114705, 1, 110, ((setDisk s d).disk.waits.flatMap cWt)⟩, ⟨114706, 2, 9, ((setDisk s d).pages.map vS)⟩] (by simp) (by simp) (by intro e he; simp only [List.mem_cons, List.not_mem_nil, or_false] at he; rcases he with rfl | rfl | rfl <;> refine ⟨_, by simp only [upd, if_true, if_false, Nat.reduceEqDiff]; rfl, ?_⟩ <;> first | (simp [kap]; done) | (refine flat_all2 ?_; first | exact flat_strs | exact flat_wts | exact flat_nil | (repeat' with_reducible first | exact flat_nil | exact flat_b | exact flat_vstrs | exact flat_vwts | refine Flat.cons ?_ ?_); done)) rfl (by simp [All2, vw, vwA, vwC, kap, clean_b]) (fun _ h => h.elim)
  · subst hc
    rw [show endI s d done 3 = (setDisk s d, 3) from if_pos (.inr rfl)]
    exact Weak.intro [⟨114704, 0, 9, ((setDisk s d).disk.cells.map vS)⟩, ⟨114705, 1, 110, ((setDisk s d).disk.waits.flatMap cWt)⟩, ⟨114706, 2, 9, ((setDisk s d).pages.map vS)⟩] (by simp) (by simp) (by intro e he; simp only [List.mem_cons, List.not_mem_nil, or_false] at he; rcases he with rfl | rfl | rfl <;> refine ⟨_, by simp only [upd, if_true, if_false, Nat.reduceEqDiff]; rfl, ?_⟩ <;> first | (simp [kap]; done) | (refine flat_all2 ?_; first | exact flat_strs | exact flat_wts | exact flat_nil | (repeat' with_reducible first | exact flat_nil | exact flat_b | exact flat_vstrs | exact flat_vwts | refine Flat.cons ?_ ?_); done)) rfl (by simp [All2, vw, vwA, vwC, kap, clean_b]) (fun _ h => h.elim)
  · rw [show endI s d done code = (setDisk done d, code) from if_neg (not_or.2 ⟨by assumption, by assumption⟩)]
    exact Weak.intro [⟨114704, 0, 9, ((setDisk done d).disk.cells.map vS)⟩, ⟨114705, 1, 110, ((setDisk done d).disk.waits.flatMap cWt)⟩, ⟨114706, 2, 9, ((setDisk done d).pages.map vS)⟩] (by simp) (by simp) (by intro e he; simp only [List.mem_cons, List.not_mem_nil, or_false] at he; rcases he with rfl | rfl | rfl <;> refine ⟨_, by simp only [upd, if_true, if_false, Nat.reduceEqDiff]; rfl, ?_⟩ <;> first | (simp [kap]; done) | (refine flat_all2 ?_; first | exact flat_strs | exact flat_wts | exact flat_nil | (repeat' with_reducible first | exact flat_nil | exact flat_b | exact flat_vstrs | exact flat_vwts | refine Flat.cons ?_ ?_); done)) rfl (by simp [All2, vw, vwA, vwC, kap, clean_b]) (fun _ h => h.elim)
theorem endI_refused {s : Stor} {d d' : Dk} (h : d' = syncD d) : endI s d' s 2 = refusedS s d 0 := by
  subst h
  unfold endI refusedS
  by_cases h : (syncD d).left = 0
  · rw [if_pos (.inl h), if_pos h]
  · rw [if_neg (not_or.2 ⟨h, by decide⟩), if_neg h, Int.add_zero]
    rfl
theorem endI_fine {s : Stor} {d : Dk} : endI s d ⟨⟨[], [], 0, 0⟩, s.turn + 1, 0, 0, s.pages⟩ 0 = endS s ⟨s.disk, s.turn + 1, 0, 0, s.pages⟩ d := by
  unfold endI endS
  by_cases h : d.left = 0
  · rw [if_pos (.inl h), if_pos h]
  · rw [if_neg (not_or.2 ⟨h, by decide⟩), if_neg h]
    rfl
end Go.Proofs.YtknciobaifdafaaGreatDoor.T
