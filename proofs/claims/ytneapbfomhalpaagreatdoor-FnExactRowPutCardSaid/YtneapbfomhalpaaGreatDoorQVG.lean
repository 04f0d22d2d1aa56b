/- Walks of values, part 7: years and months. -/
import Derived.Test.YtneapbfomhalpaaGreatDoorQVA
set_option linter.unusedVariables false
set_option maxRecDepth 100000
set_option maxHeartbeats 4000000
set_option linter.unusedSimpArgs false
namespace Go.Pv
/-- The days ahead of a year. -/
def beforeD (y : Int) : Int := 365 * (y - 1) + (y - 1) / 4 - (y - 1) / 100 + (y - 1) / 400
def leapB (y : Int) : Bool := decide (y % 4 = 0) && (decide (y % 100 ≠ 0) || decide (y % 400 = 0))
def lastD (y m : Int) : Int := if m = 2 then (if leapB y = true then 29 else 28) else if m = 4 ∨ m = 6 ∨ m = 9 ∨ m = 11 then 30 else 31
theorem before_mono {a b : Int} (h : a < b) : beforeD a < beforeD b := by unfold beforeD; omega
theorem before_in {y : Int} (h1 : 1 ≤ y) (h2 : y ≤ 10000) : 0 ≤ beforeD y ∧ beforeD y ≤ 3652059 := by unfold beforeD; omega
theorem lastD_in (y m : Int) : 28 ≤ lastD y m ∧ lastD y m ≤ 31 := by
  unfold lastD
  repeat' split
  all_goals omega
end Go.Pv
namespace Go.Proofs.YtneapbfomhalpaaGreatDoor.T
open Go Go.Pv Go.Proofs.YtneapbfomhalpaaGreatDoor.EF
theorem l3Before_ok (y : Int) (h1 : 1 ≤ y) (h2 : y ≤ 10000) : Ok Tryz.prog 86 [vI y] (vI (beforeD y)) [] := by
  unfold beforeD
  have w0 : IntKind.i64.wrap (y - 1) = y - 1 := wrap_id (by omega) (by omega)
  obtain ⟨n, hn⟩ : ∃ n, n = y - 1 := ⟨_, rfl⟩
  rw [← hn] at w0 ⊢
  have t1 : IntKind.i64.wrap (n.tdiv 4) = n / 4 := by rw [Int.tdiv_eq_ediv_of_nonneg (by omega), wrap_id (by omega) (by omega)]
  have t2 : IntKind.i64.wrap (n.tdiv 100) = n / 100 := by rw [Int.tdiv_eq_ediv_of_nonneg (by omega), wrap_id (by omega) (by omega)]
  have t3 : IntKind.i64.wrap (n.tdiv 400) = n / 400 := by rw [Int.tdiv_eq_ediv_of_nonneg (by omega), wrap_id (by omega) (by omega)]
  have s0 : IntKind.i64.wrap (365 * n) = 365 * n := wrap_id (by omega) (by omega)
  have s1 : IntKind.i64.wrap (365 * n + n / 4) = 365 * n + n / 4 := wrap_id (by omega) (by omega)
  have s2 : IntKind.i64.wrap (365 * n + n / 4 - n / 100) = 365 * n + n / 4 - n / 100 := wrap_id (by omega) (by omega)
  have s3 : IntKind.i64.wrap (365 * n + n / 4 - n / 100 + n / 400) = 365 * n + n / 4 - n / 100 + n / 400 := wrap_id (by omega) (by omega)
  have e : y - 1 = n := hn.symm
  refine Ok.walk Tryz.func86 rfl ?_; simp only [startSt, show Tryz.f86.ntmps = 17 from rfl, List.length_cons, List.length_nil, Nat.reduceAdd, Nat.reduceSub, List.replicate, List.cons_append, List.nil_append]
  repeat' first | (with_reducible first | refine W.seq ?_ | refine W.region ?_ | refine W_ret ?_ | refine Seq.normal ?_ | refine aops_nil ?_) | ((with_reducible refine aops_run ?_ (fun K' hK' => ?_)); exact rfl) | ((with_reducible refine hK' _ _ ?_); clear hK'; dsimp only [put, List.set]) | (with_reducible first | refine And.intro ?_ ?_) | ((with_reducible first | show (_ : Int) < _ | show (_ : Int) ≤ _ | show (_ : Int) ≠ _ | show (_ : Nat) < _ | show (_ : Nat) ≤ _ | show (_ : Nat) ≠ _); omega) | ((with_reducible first | refine Ends.ret ?_ | refine Ends.normal ?_); simp only [aRes, show Tryz.f86.results.toList = [.tmp 2] from rfl, aRess, aResV, oneOf, List.getD_cons_zero, List.getD_cons_succ]) | (simp only [aop, St.eval, List.getD_cons_zero, List.getD_cons_succ, aBin, binI, true_and, e, w0, t1, t2, t3, s0, s1, s2, s3]; (all_goals fail_if_success show False))
  all_goals exact Out.flat' rfl
theorem ahead_ok (y : Int) (h1 : 1 ≤ y) (h2 : y ≤ 10000) : Ok Tryz.prog 108 [vI y] (vI (beforeD y)) [] := by
  unfold beforeD
  have w0 : IntKind.i64.wrap (y - 1) = y - 1 := wrap_id (by omega) (by omega)
  obtain ⟨n, hn⟩ : ∃ n, n = y - 1 := ⟨_, rfl⟩
  rw [← hn] at w0 ⊢
  have t1 : IntKind.i64.wrap (n.tdiv 4) = n / 4 := by rw [Int.tdiv_eq_ediv_of_nonneg (by omega), wrap_id (by omega) (by omega)]
  have t2 : IntKind.i64.wrap (n.tdiv 100) = n / 100 := by rw [Int.tdiv_eq_ediv_of_nonneg (by omega), wrap_id (by omega) (by omega)]
  have t3 : IntKind.i64.wrap (n.tdiv 400) = n / 400 := by rw [Int.tdiv_eq_ediv_of_nonneg (by omega), wrap_id (by omega) (by omega)]
  have s0 : IntKind.i64.wrap (365 * n) = 365 * n := wrap_id (by omega) (by omega)
  have s1 : IntKind.i64.wrap (365 * n + n / 4) = 365 * n + n / 4 := wrap_id (by omega) (by omega)
  have s2 : IntKind.i64.wrap (365 * n + n / 4 - n / 100) = 365 * n + n / 4 - n / 100 := wrap_id (by omega) (by omega)
  have s3 : IntKind.i64.wrap (365 * n + n / 4 - n / 100 + n / 400) = 365 * n + n / 4 - n / 100 + n / 400 := wrap_id (by omega) (by omega)
  have e : y - 1 = n := hn.symm
  refine Ok.walk Tryz.func108 rfl ?_; simp only [startSt, show Tryz.f108.ntmps = 16 from rfl, List.length_cons, List.length_nil, Nat.reduceAdd, Nat.reduceSub, List.replicate, List.cons_append, List.nil_append]
  repeat' first | (with_reducible first | refine W.seq ?_ | refine W.region ?_ | refine W_ret ?_ | refine Seq.normal ?_ | refine aops_nil ?_) | ((with_reducible refine aops_run ?_ (fun K' hK' => ?_)); exact rfl) | ((with_reducible refine hK' _ _ ?_); clear hK'; dsimp only [put, List.set]) | (with_reducible first | refine And.intro ?_ ?_) | ((with_reducible first | show (_ : Int) < _ | show (_ : Int) ≤ _ | show (_ : Int) ≠ _ | show (_ : Nat) < _ | show (_ : Nat) ≤ _ | show (_ : Nat) ≠ _); omega) | ((with_reducible first | refine Ends.ret ?_ | refine Ends.normal ?_); simp only [aRes, show Tryz.f108.results.toList = [.tmp 2] from rfl, aRess, aResV, oneOf, List.getD_cons_zero, List.getD_cons_succ]) | (simp only [aop, St.eval, List.getD_cons_zero, List.getD_cons_succ, aBin, binI, true_and, e, w0, t1, t2, t3, s0, s1, s2, s3]; (all_goals fail_if_success show False))
  all_goals exact Out.flat' rfl
theorem l3Leap_ok (y : Int) (h1 : 0 ≤ y) : Ok Tryz.prog 102 [vI y] (vB (leapB y)) [] := by
  unfold leapB
  have t1 : y.tmod 4 = y % 4 := Int.tmod_eq_emod_of_nonneg h1
  have t2 : y.tmod 100 = y % 100 := Int.tmod_eq_emod_of_nonneg h1
  have t3 : y.tmod 400 = y % 400 := Int.tmod_eq_emod_of_nonneg h1
  refine Ok.walk Tryz.func102 rfl ?_; simp only [startSt, show Tryz.f102.ntmps = 16 from rfl, List.length_cons, List.length_nil, Nat.reduceAdd, Nat.reduceSub, List.replicate, List.cons_append, List.nil_append]
  repeat' first | (with_reducible first | refine W.seq ?_ | refine W.region ?_ | refine W_ret ?_ | refine Seq.normal ?_ | refine aops_nil ?_) | ((with_reducible refine aops_run ?_ (fun K' hK' => ?_)); exact rfl) | ((with_reducible refine aops_skip ?_ ?_); exact rfl; dsimp only [put, List.set]) | ((with_reducible apply aops_cons_if); (case hg => exact rfl); (case' h1 => (intro hg; (first | replace hg := beqT hg | replace hg := beqTf hg | replace hg := beqF hg | replace hg := beqFf hg); rw [hg]; (first | replace hg := of_decide_eq_true hg | replace hg := of_decide_eq_false hg | replace hg := ndT hg | replace hg := ndF hg | replace hg := nbT hg | replace hg := nbF hg | skip); (try (exfalso; omega)); all_goals (intro K' hK'))); (case' h2 => (intro hg; (first | replace hg := beqT hg | replace hg := beqTf hg | replace hg := beqF hg | replace hg := beqFf hg); rw [hg]; dsimp only [put, List.set]; (first | replace hg := of_decide_eq_true hg | replace hg := of_decide_eq_false hg | replace hg := ndT hg | replace hg := ndF hg | replace hg := nbT hg | replace hg := nbF hg | skip); (try (exfalso; omega))))) | ((with_reducible refine hK' _ _ ?_); clear hK'; dsimp only [put, List.set]) | (with_reducible first | refine And.intro ?_ ?_) | ((with_reducible first | show (_ : Int) < _ | show (_ : Int) ≤ _ | show (_ : Int) ≠ _ | show (_ : Nat) < _ | show (_ : Nat) ≤ _ | show (_ : Nat) ≠ _); omega) | ((with_reducible first | refine Ends.ret ?_ | refine Ends.normal ?_); simp only [aRes, show Tryz.f102.results.toList = [.tmp 2] from rfl, aRess, aResV, oneOf, List.getD_cons_zero, List.getD_cons_succ]) | (simp only [aop, St.eval, List.getD_cons_zero, List.getD_cons_succ, aBin, binI, if_true, if_false, Bool.false_eq_true, true_and, t1, t2, t3]; (all_goals fail_if_success show False))
  all_goals first
    | exact Out.flat' rfl
    | (refine Out.flat' (congrArg Value.bool ?_); clear t1 t2 t3; by_cases a : y % 4 = 0 <;> by_cases b : y % 100 = 0 <;> by_cases c : y % 400 = 0 <;> first | omega | (simp [b, c]; done) | (exfalso; omega))
    | fail
theorem leap_ok (y : Int) (h1 : 0 ≤ y) : Ok Tryz.prog 120 [vI y] (vB (leapB y)) [] := by
  unfold leapB
  have t1 : y.tmod 4 = y % 4 := Int.tmod_eq_emod_of_nonneg h1
  have t2 : y.tmod 100 = y % 100 := Int.tmod_eq_emod_of_nonneg h1
  have t3 : y.tmod 400 = y % 400 := Int.tmod_eq_emod_of_nonneg h1
  refine Ok.walk Tryz.func120 rfl ?_; simp only [startSt, show Tryz.f120.ntmps = 16 from rfl, List.length_cons, List.length_nil, Nat.reduceAdd, Nat.reduceSub, List.replicate, List.cons_append, List.nil_append]
  repeat' first | (with_reducible first | refine W.seq ?_ | refine W.region ?_ | refine W_ret ?_ | refine Seq.normal ?_ | refine aops_nil ?_) | ((with_reducible refine aops_run ?_ (fun K' hK' => ?_)); exact rfl) | ((with_reducible refine aops_skip ?_ ?_); exact rfl; dsimp only [put, List.set]) | ((with_reducible apply aops_cons_if); (case hg => exact rfl); (case' h1 => (intro hg; (first | replace hg := beqT hg | replace hg := beqTf hg | replace hg := beqF hg | replace hg := beqFf hg); rw [hg]; (first | replace hg := of_decide_eq_true hg | replace hg := of_decide_eq_false hg | replace hg := ndT hg | replace hg := ndF hg | replace hg := nbT hg | replace hg := nbF hg | skip); (try (exfalso; omega)); all_goals (intro K' hK'))); (case' h2 => (intro hg; (first | replace hg := beqT hg | replace hg := beqTf hg | replace hg := beqF hg | replace hg := beqFf hg); rw [hg]; dsimp only [put, List.set]; (first | replace hg := of_decide_eq_true hg | replace hg := of_decide_eq_false hg | replace hg := ndT hg | replace hg := ndF hg | replace hg := nbT hg | replace hg := nbF hg | skip); (try (exfalso; omega))))) | ((with_reducible refine hK' _ _ ?_); clear hK'; dsimp only [put, List.set]) | (with_reducible first | refine And.intro ?_ ?_) | ((with_reducible first | show (_ : Int) < _ | show (_ : Int) ≤ _ | show (_ : Int) ≠ _ | show (_ : Nat) < _ | show (_ : Nat) ≤ _ | show (_ : Nat) ≠ _); omega) | ((with_reducible first | refine Ends.ret ?_ | refine Ends.normal ?_); simp only [aRes, show Tryz.f120.results.toList = [.tmp 2] from rfl, aRess, aResV, oneOf, List.getD_cons_zero, List.getD_cons_succ]) | (simp only [aop, St.eval, List.getD_cons_zero, List.getD_cons_succ, aBin, binI, if_true, if_false, Bool.false_eq_true, true_and, t1, t2, t3]; (all_goals fail_if_success show False))
  all_goals first
    | exact Out.flat' rfl
    | (refine Out.flat' (congrArg Value.bool ?_); clear t1 t2 t3; by_cases a : y % 4 = 0 <;> by_cases b : y % 100 = 0 <;> by_cases c : y % 400 = 0 <;> first | omega | (simp [b, c]; done) | (exfalso; omega))
    | fail
theorem l3Last_ok (y m : Int) (h1 : 0 ≤ y) : Ok Tryz.prog 87 [vI y, vI m] (vI (lastD y m)) [] := by
  have hl := l3Leap_ok y h1
  unfold lastD
  generalize leapB y = b at hl ⊢
  refine Ok.walk Tryz.func87 rfl ?_; simp only [startSt, show Tryz.f87.ntmps = 15 from rfl, List.length_cons, List.length_nil, Nat.reduceAdd, Nat.reduceSub, List.replicate, List.cons_append, List.nil_append]
  repeat' first | (with_reducible first | refine W.seq ?_ | refine W.region ?_ | refine W_ret ?_ | refine W_skip ?_ | refine W.block ?_ | refine Seq.normal ?_ | refine Seq.ret ?_ | refine Blk.normal ?_ | refine Blk.ret ?_ | refine aops_nil ?_) | ((with_reducible apply aops_callF); (case hg => exact rfl); (case ho => exact rfl); (case hc => exact rfl); (case hf => exact rfl); (case hok => first | exact hl); (case hcal => first | assumption | kernel_rfl); (case hcl => (with_reducible simp only [List.map_cons, List.map_nil, List.forall_mem_cons, St.eval, List.getD_cons_zero, List.getD_cons_succ]); (repeat' with_reducible first | exact Cln.b _ | exact cln_strs | exact cln_wts | exact cln_nil | refine And.intro ?_ ?_ | refine Cln.agg ?_ | rw [List.forall_mem_cons])); (case' h => dsimp only [put, List.set])) | ((with_reducible refine aops_run ?_ (fun K' hK' => ?_)); exact rfl) | ((with_reducible refine hK' _ _ ?_); clear hK'; dsimp only [put, List.set]) | ((with_reducible apply W_cond); (case hc => exact rfl); (case' h2 => (intro hc; replace hc := of_decide_eq_false hc)); (case' h1 => (intro hc; replace hc := of_decide_eq_true hc)); all_goals try (exfalso; first | omega | exact hc rfl | exact hc trivial | exact Bool.noConfusion hc)) | ((with_reducible apply W_cond); (case hc => exact rfl); all_goals intro hc; all_goals try (exfalso; first | omega | exact hc rfl | exact hc trivial | exact Bool.noConfusion hc)) | ((with_reducible first | refine Ends.ret ?_ | refine Ends.normal ?_); simp only [aRes, show Tryz.f87.results.toList = [.tmp 4] from rfl, aRess, aResV, oneOf, List.getD_cons_zero, List.getD_cons_succ]) | (simp only [aop, St.eval, List.getD_cons_zero, List.getD_cons_succ, aBin, binI, true_and]; (all_goals fail_if_success show False))
  all_goals first
    | exact Out.flat' rfl
    | (refine Out.flat' (congrArg (Value.int .i64) ?_); subst_vars; simp_all; done)
    | (refine Out.flat' (congrArg (Value.int .i64) ?_); repeat' split; all_goals omega)
    | fail
theorem DayLast_ok (y m : Int) (h1 : 1 ≤ y ∧ y ≤ 9999) (h2 : 1 ≤ m ∧ m ≤ 12) : Ok Tryz.prog 109 [vI y, vI m] (vI (lastD y m)) [] := by
  have hl := leap_ok y (by omega)
  have hy := in_ok y 1 9999
  have hm := in_ok m 1 12
  rw [decide_eq_true h1] at hy
  rw [decide_eq_true h2] at hm
  unfold lastD
  generalize leapB y = b at hl ⊢
  cases b
  all_goals (refine Ok.walk Tryz.func109 rfl ?_; simp only [startSt, show Tryz.f109.ntmps = 39 from rfl, List.length_cons, List.length_nil, Nat.reduceAdd, Nat.reduceSub, List.replicate, List.cons_append, List.nil_append])
  all_goals (repeat' first | (with_reducible first | refine W.seq ?_ | refine W.region ?_ | refine W_ret ?_ | refine W_skip ?_ | refine W.block ?_ | refine Seq.normal ?_ | refine Seq.ret ?_ | refine Blk.normal ?_ | refine Blk.ret ?_ | refine aops_nil ?_) | ((with_reducible apply aops_callF); (case hg => exact rfl); (case ho => exact rfl); (case hc => exact rfl); (case hf => exact rfl); (case hok => first | exact hl | exact hy | exact hm); (case hcal => first | assumption | kernel_rfl); (case hcl => (with_reducible simp only [List.map_cons, List.map_nil, List.forall_mem_cons, St.eval, List.getD_cons_zero, List.getD_cons_succ]); (repeat' with_reducible first | exact Cln.b _ | exact cln_strs | exact cln_wts | exact cln_nil | refine And.intro ?_ ?_ | refine Cln.agg ?_ | rw [List.forall_mem_cons])); (case' h => dsimp only [put, List.set])) | ((with_reducible refine aops_run ?_ (fun K' hK' => ?_)); exact rfl) | ((with_reducible refine aops_skip ?_ ?_); exact rfl; dsimp only [put, List.set]) | ((with_reducible apply aops_cons_if); (case hg => exact rfl); (case' h1 => (intro hg; (first | replace hg := beqT hg | replace hg := beqTf hg | replace hg := beqF hg | replace hg := beqFf hg); rw [hg]; (first | replace hg := of_decide_eq_true hg | replace hg := of_decide_eq_false hg | replace hg := ndT hg | replace hg := ndF hg | replace hg := nbT hg | replace hg := nbF hg | skip); (try (exfalso; omega)); all_goals (intro K' hK'))); (case' h2 => (intro hg; (first | replace hg := beqT hg | replace hg := beqTf hg | replace hg := beqF hg | replace hg := beqFf hg); rw [hg]; dsimp only [put, List.set]; (first | replace hg := of_decide_eq_true hg | replace hg := of_decide_eq_false hg | replace hg := ndT hg | replace hg := ndF hg | replace hg := nbT hg | replace hg := nbF hg | skip); (try (exfalso; omega))))) | ((with_reducible refine hK' _ _ ?_); clear hK'; dsimp only [put, List.set]) | ((with_reducible apply W_cond); (case hc => exact rfl); (case' h2 => (intro hc; replace hc := of_decide_eq_false hc)); (case' h1 => (intro hc; replace hc := of_decide_eq_true hc)); all_goals try (exfalso; first | omega | exact hc rfl | exact hc trivial | exact Bool.noConfusion hc)) | ((with_reducible apply W_cond); (case hc => exact rfl); (case' h2 => (intro hc; replace hc := nbF hc)); (case' h1 => (intro hc; replace hc := nbT hc)); all_goals try (exfalso; first | omega | exact hc rfl | exact hc trivial | exact Bool.noConfusion hc)) | ((with_reducible apply W_cond); (case hc => exact rfl); all_goals intro hc; all_goals try (exfalso; first | omega | exact hc rfl | exact hc trivial | exact Bool.noConfusion hc)) | ((with_reducible first | refine Ends.ret ?_ | refine Ends.normal ?_); simp only [aRes, show Tryz.f109.results.toList = [.tmp 4] from rfl, aRess, aResV, oneOf, List.getD_cons_zero, List.getD_cons_succ, if_true]) | (simp only [aop, St.eval, List.getD_cons_zero, List.getD_cons_succ, aBin, binI, aUn, if_true, if_false, Bool.false_eq_true, true_and]; (all_goals fail_if_success show False)))
  all_goals first
    | exact Out.flat' rfl
    | (refine Out.flat' (congrArg (Value.int .i64) ?_); subst_vars; simp_all; done)
    | (refine Out.flat' (congrArg (Value.int .i64) ?_); repeat' split; all_goals omega)
    | fail
end Go.Proofs.YtneapbfomhalpaaGreatDoor.T
