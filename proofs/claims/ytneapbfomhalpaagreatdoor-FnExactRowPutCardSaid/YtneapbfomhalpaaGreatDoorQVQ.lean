/- Walks of values, part 17: the reference's ValuePut. -/
import Derived.Test.YtneapbfomhalpaaGreatDoorQVP
set_option linter.unusedVariables false
set_option maxRecDepth 100000
set_option maxHeartbeats 4000000
set_option linter.unusedSimpArgs false
namespace Go.Pv
open Classical in
/-- The year and the month of a day. -/
noncomputable def yearD (n : Int) : Int := if h : ∃ y, YearOf n y then Classical.choose h else 0
open Classical in
noncomputable def monthD (n : Int) : Nat := if h : ∃ m, MonthOf n (yearD n) m then Classical.choose h else 0
theorem yearD_of {n : Int} (h : 1 ≤ n ∧ n ≤ 3652059) : YearOf n (yearD n) := by
  have hx := yearOf_ex h.1 h.2
  unfold yearD
  rw [dif_pos hx]
  exact Classical.choose_spec hx
theorem monthD_of {n : Int} (h : 1 ≤ n ∧ n ≤ 3652059) : MonthOf n (yearD n) (monthD n) := by
  have hx := monthOf_ex (yearD_of h)
  unfold monthD
  rw [dif_pos hx]
  exact Classical.choose_spec hx
noncomputable def dayT (n : Int) : ByteArray := dayB (yearD n) (monthD n) (n - beforeD (yearD n) - monD (yearD n) (monthD n - 1))
noncomputable def putV (v : Vl) : ByteArray :=
  if v.kind = 0 then ⟨#[110, 117, 108, 108]⟩ else if v.kind = 3 then (⟨#[64]⟩ : ByteArray) ++ dayT v.day else if v.kind = 4 then (⟨#[35]⟩ : ByteArray) ++ spanT v.months v.days else if v.kind = 5 then quoT v.text
  else if v.kind = 1 then (if v.yes = true then ⟨#[116, 114, 117, 101]⟩ else ⟨#[102, 97, 108, 115, 101]⟩) else decT v.num
end Go.Pv
namespace Go.Proofs.YtneapbfomhalpaaGreatDoor.T
open Go Go.Pv Go.Proofs.YtneapbfomhalpaaGreatDoor.EF
theorem l3PutT_ok (n : Int) (h : 1 ≤ n ∧ n ≤ 3652059) : Ok Tryz.prog 41 [vI n] (vS (dayT n)) [] := l3Put_ok n _ _ h (yearD_of h) (monthD_of h)
theorem l4Says_yes (v : Vl) (h : v.kind = 1) : Ok Tryz.prog 44 [vVl v] (vS (if v.yes = true then ⟨#[116, 114, 117, 101]⟩ else ⟨#[102, 97, 108, 115, 101]⟩)) [] := by
  obtain ⟨kind, yes, ⟨ng, l, sc⟩, day, months, days, text⟩ := v
  dsimp only at h ⊢
  subst h
  cases yes
  all_goals (refine Ok.walk Tryz.func44 rfl ?_; simp only [startSt, show Tryz.f44.ntmps = 26 from rfl, List.length_cons, List.length_nil, Nat.reduceAdd, Nat.reduceSub, List.replicate, List.cons_append, List.nil_append])
  all_goals (repeat' first | (with_reducible first | refine W.seq ?_ | refine W.region ?_ | refine W_ret ?_ | refine W_skip ?_ | refine W.block ?_ | refine Seq.normal ?_ | refine Seq.ret ?_ | refine Blk.ret ?_ | refine aops_nil ?_) | ((with_reducible refine aops_run ?_ (fun K' hK' => ?_)); exact rfl) | ((with_reducible refine hK' _ _ ?_); clear hK'; dsimp only [put, List.set]) | ((with_reducible apply W_cond); (case hc => exact rfl); (case' h2 => (intro hc; replace hc := of_decide_eq_false hc)); (case' h1 => (intro hc; replace hc := of_decide_eq_true hc)); all_goals try (exfalso; first | omega | exact hc rfl | exact hc trivial | exact Bool.noConfusion hc)) | ((with_reducible apply W_cond); (case hc => exact rfl); all_goals intro hc; all_goals try (exfalso; first | omega | exact hc rfl | exact hc trivial | exact Bool.noConfusion hc)) | ((with_reducible first | refine Ends.ret ?_ | refine Ends.normal ?_); simp only [aRes, show Tryz.f44.results.toList = [.tmp 2] from rfl, aRess, aResV, oneOf, List.getD_cons_zero, List.getD_cons_succ, if_true]) | (simp only [aop, St.eval, List.getD_cons_zero, List.getD_cons_succ, aBin, binI, aLoad, loadPV_one, aField, cellsOf, upd, Nat.mul_one, List.length_cons, List.length_nil, List.drop_zero, List.drop_succ_cons, if_true, if_false, Bool.false_eq_true, true_and, Nat.reduceAdd, Nat.reduceMul, Nat.reduceLT, Nat.zero_add, Nat.add_zero, fo38_0, fo38_1, ti3, ti4]; (all_goals fail_if_success show False)))
  all_goals exact Out.flat' rfl
theorem l4Says_num (v : Vl) (h : v.kind = 2) (hk : okD v.num = true) : Ok Tryz.prog 44 [vVl v] (vS (decT v.num)) [] := by
  have hD := l2Put_ok v.num hk
  obtain ⟨kind, yes, ⟨ng, l, sc⟩, day, months, days, text⟩ := v
  dsimp only at h hD ⊢
  subst h
  generalize decT ⟨ng, l, sc⟩ = t at hD ⊢
  refine Ok.walk Tryz.func44 rfl ?_; simp only [startSt, show Tryz.f44.ntmps = 26 from rfl, List.length_cons, List.length_nil, Nat.reduceAdd, Nat.reduceSub, List.replicate, List.cons_append, List.nil_append]
  repeat' first | (with_reducible first | refine W.seq ?_ | refine W.region ?_ | refine W_ret ?_ | refine W.block ?_ | refine Seq.normal ?_ | refine Seq.ret ?_ | refine Blk.ret ?_ | refine aops_nil ?_) | ((with_reducible apply aops_callF); (case hg => exact rfl); (case ho => exact rfl); (case hc => exact rfl); (case hf => exact rfl); (case hok => first | exact hD); (case hcal => first | assumption | kernel_rfl); (case hcl => (with_reducible simp only [List.map_cons, List.map_nil, List.forall_mem_cons, St.eval, List.getD_cons_zero, List.getD_cons_succ]); (repeat' with_reducible first | exact Cln.b _ | exact cln_strs | exact cln_wts | exact cln_vI | exact cln_nil | refine And.intro ?_ ?_ | refine Cln.agg ?_ | rw [List.forall_mem_cons])); (case' h => dsimp only [put, List.set])) | ((with_reducible refine aops_run ?_ (fun K' hK' => ?_)); exact rfl) | ((with_reducible refine hK' _ _ ?_); clear hK'; dsimp only [put, List.set]) | ((with_reducible apply W_cond); (case hc => exact rfl); (case' h2 => (intro hc; replace hc := of_decide_eq_false hc)); (case' h1 => (intro hc; replace hc := of_decide_eq_true hc)); all_goals try (exfalso; first | omega | exact hc rfl | exact hc trivial | exact Bool.noConfusion hc)) | ((with_reducible first | refine Ends.ret ?_ | refine Ends.normal ?_); simp only [aRes, show Tryz.f44.results.toList = [.tmp 2] from rfl, aRess, aResV, oneOf, List.getD_cons_zero, List.getD_cons_succ]) | (simp only [aop, St.eval, List.getD_cons_zero, List.getD_cons_succ, aBin, binI, aLoad, loadPV_one, loadPV_agg, aField, cellsOf, upd, Nat.mul_one, List.length_cons, List.length_nil, List.drop_zero, List.drop_succ_cons, List.take_succ_cons, List.take_zero, if_true, true_and, Nat.reduceAdd, Nat.reduceMul, Nat.reduceLT, Nat.reduceLeDiff, Nat.zero_add, Nat.add_zero, fo38_0, fo38_2, ti3, ti35]; (all_goals fail_if_success show False))
  all_goals exact Out.flat' rfl
end Go.Proofs.YtneapbfomhalpaaGreatDoor.T
