/- Walks of values, part 12: the reference's values that are ok. -/
import Derived.Test.YtneapbfomhalpaaGreatDoorQVK
set_option linter.unusedVariables false
set_option maxRecDepth 100000
set_option maxHeartbeats 4000000
set_option linter.unusedSimpArgs false
namespace Go.Proofs.YtneapbfomhalpaaGreatDoor.T
open Go Go.Pv Go.Proofs.YtneapbfomhalpaaGreatDoor.EF
theorem l4Bare_ok (v : Vl) (h : v.num.limbs.length ≤ 1000000000) : Ok Tryz.prog 36 [vVl v] (vB (bareV v)) [] := by
  have hz := l4Zero_ok v.num h
  unfold bareV
  obtain ⟨kind, yes, ⟨ng, l, sc⟩, day, months, days, text⟩ := v
  dsimp only at hz h ⊢
  generalize zeroD ⟨ng, l, sc⟩ = z at hz ⊢
  refine Ok.walk Tryz.func36 rfl ?_; simp only [startSt, show Tryz.f36.ntmps = 54 from rfl, List.length_cons, List.length_nil, Nat.reduceAdd, Nat.reduceSub, List.replicate, List.cons_append, List.nil_append]
  repeat' first | (with_reducible first | refine W.seq ?_ | refine W.region ?_ | refine W_ret ?_ | refine W_skip ?_ | refine Seq.normal ?_ | refine Seq.ret ?_ | refine aops_nil ?_) | ((with_reducible apply aops_callF); (case hg => exact rfl); (case ho => exact rfl); (case hc => exact rfl); (case hf => exact rfl); (case hok => first | exact hz); (case hcal => first | assumption | kernel_rfl); (case hcl => (with_reducible simp only [List.map_cons, List.map_nil, List.forall_mem_cons, St.eval, List.getD_cons_zero, List.getD_cons_succ]); (repeat' with_reducible first | exact Cln.b _ | exact cln_strs | exact cln_wts | exact cln_vI | exact cln_nil | refine And.intro ?_ ?_ | refine Cln.agg ?_ | rw [List.forall_mem_cons])); (case' h => dsimp only [put, List.set])) | ((with_reducible refine aops_run ?_ (fun K' hK' => ?_)); exact rfl) | ((with_reducible refine aops_skip ?_ ?_); exact rfl; dsimp only [put, List.set]) | ((with_reducible apply aops_cons_if); (case hg => exact rfl); (case' h1 => (intro hg; (first | replace hg := beqT hg | replace hg := beqTf hg | replace hg := beqF hg | replace hg := beqFf hg); rw [hg]; (first | replace hg := of_decide_eq_true hg | replace hg := of_decide_eq_false hg | replace hg := ndT hg | replace hg := ndF hg | replace hg := nbT hg | replace hg := nbF hg | skip); (try (exfalso; omega)); all_goals (intro K' hK'))); (case' h2 => (intro hg; (first | replace hg := beqT hg | replace hg := beqTf hg | replace hg := beqF hg | replace hg := beqFf hg); rw [hg]; dsimp only [put, List.set]; (first | replace hg := of_decide_eq_true hg | replace hg := of_decide_eq_false hg | replace hg := ndT hg | replace hg := ndF hg | replace hg := nbT hg | replace hg := nbF hg | skip); (try (exfalso; omega))))) | ((with_reducible refine hK' _ _ ?_); clear hK'; dsimp only [put, List.set]) | ((with_reducible apply W_cond); (case hc => exact rfl); (case' h2 => (intro hc; replace hc := ndF hc)); (case' h1 => (intro hc; replace hc := ndT hc)); all_goals try (exfalso; first | omega | exact hc rfl | exact hc trivial | exact Bool.noConfusion hc)) | ((with_reducible apply W_cond); (case hc => exact rfl); (case' h2 => (intro hc; replace hc := nbF hc)); (case' h1 => (intro hc; replace hc := nbT hc)); all_goals try (exfalso; first | omega | exact hc rfl | exact hc trivial | exact Bool.noConfusion hc)) | ((with_reducible apply W_cond); (case hc => exact rfl); all_goals intro hc; all_goals try (exfalso; first | omega | exact hc rfl | exact hc trivial | exact Bool.noConfusion hc)) | ((with_reducible first | refine Ends.ret ?_ | refine Ends.normal ?_); simp only [aRes, show Tryz.f36.results.toList = [.tmp 2] from rfl, aRess, aResV, oneOf, List.getD_cons_zero, List.getD_cons_succ]) | (simp only [aop, St.eval, List.getD_cons_zero, List.getD_cons_succ, aBin, binI, binS, aUn, aLoad, loadPV_one, loadPV_agg, aField, cellsOf, upd, Nat.mul_one, List.length_cons, List.length_nil, List.drop_zero, List.drop_succ_cons, List.take_succ_cons, List.take_zero, if_true, if_false, Bool.false_eq_true, true_and, and_true, Nat.reduceAdd, Nat.reduceMul, Nat.reduceLT, Nat.reduceLeDiff, Nat.zero_add, Nat.add_zero, fo36_0, fo36_1, fo38_0, fo38_1, fo38_2, fo38_3, fo38_4, fo38_5, ti3, ti35, ti4, ti9]; (all_goals fail_if_success show False))
  all_goals (clear hz h; refine Out.flat' (congrArg Value.bool ?_))
  all_goals (first | (cases yes <;> cases z <;> rfl) | skip)
  all_goals (cases yes <;> cases z)
  all_goals (simp only [Bool.false_eq_true, Bool.true_eq_false, and_true, and_false, or_false, false_or] at *)
  all_goals (repeat' split)
  all_goals first
    | rfl
    | (exfalso; omega)
    | exact (decide_eq_false (by omega)).symm
    | exact (decide_eq_true ⟨by omega, by omega⟩).symm
    | exact decide_eq_decide.2 ⟨fun e => ⟨by omega, .inr e⟩, fun e => e.2.resolve_left (by omega)⟩
    | fail
end Go.Proofs.YtneapbfomhalpaaGreatDoor.T
