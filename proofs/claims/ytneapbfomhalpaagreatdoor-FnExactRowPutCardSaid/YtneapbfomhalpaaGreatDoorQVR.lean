/- Walks of values, part 18: the reference's ValuePut, whole. -/
import Derived.Test.YtneapbfomhalpaaGreatDoorQVQ
set_option linter.unusedVariables false
set_option maxRecDepth 100000
set_option maxHeartbeats 4000000
set_option linter.unusedSimpArgs false
namespace Go.Pv
noncomputable def putO (b : Bool) (v : Vl) : ByteArray := if b = true then putV v else ByteArray.empty
theorem quoT_size (s : ByteArray) : (quoT s).size ≤ 2 + 2 * s.size := by
  have := quoK_size s s.size
  unfold quoT
  rw [ByteArray.size_append]
  have h1 : (⟨#[39]⟩ : ByteArray).size = 1 := rfl
  omega
end Go.Pv
namespace Go.Proofs.YtneapbfomhalpaaGreatDoor.T
open Go Go.Pv Go.Proofs.YtneapbfomhalpaaGreatDoor.EF
theorem okV_parts {v : Vl} (h : okV v = true) : 0 ≤ v.kind ∧ v.kind ≤ 5 ∧ bareV v = true ∧ (if v.kind = 2 then okD v.num else if v.kind = 3 then decide (1 ≤ v.day ∧ v.day ≤ 3652059) else if v.kind = 4 then spanB v.months v.days else okT v.text) = true := by
  unfold okV at h
  by_cases h1 : 0 ≤ v.kind ∧ v.kind ≤ 5
  · rw [if_pos h1] at h
    by_cases h2 : bareV v = true
    · rw [if_pos h2] at h
      exact ⟨h1.1, h1.2, h2, h⟩
    · rw [if_neg h2] at h
      cases h
  · rw [if_neg h1] at h
    cases h
theorem dayT_size {n : Int} (h : 1 ≤ n ∧ n ≤ 3652059) : (dayT n).size ≤ 100 := by
  have hy := yearD_of h
  have hm := monthD_of h
  have h1 := hy.lo
  have h2 := hy.hi
  have h3 := hm.lo
  have h4 := hm.hi
  have bb := before_in h1 (by omega)
  have bm := monD_in (yearD n) (monthD n - 1)
  have s1 := itoaB_size (yearD n) (by omega) (by omega)
  have s2 := itoaB_size (monthD n) (by omega) (by omega)
  have s3 := itoaB_size (n - beforeD (yearD n) - monD (yearD n) (monthD n - 1)) (by omega) (by omega)
  have hd : dashB.size = 1 := rfl
  unfold dayT dayB
  simp only [ByteArray.size_append, padB_size, hd]
  omega
theorem spanT_size {m d : Int} (h : spanB m d = true) : (spanT m d).size ≤ 100 := by
  unfold spanB at h
  have h := of_decide_eq_true h
  have s1 := itoaB_size m (by omega) (by omega)
  have s2 := itoaB_size d (by omega) (by omega)
  have h1 : mB.size = 1 := rfl
  have h2 : dB.size = 1 := rfl
  unfold spanT
  simp only [ByteArray.size_append, h1, h2]
  omega
theorem l4Put_ok (v : Vl) (h : okV v = true) : Ok Tryz.prog 20 [vVl v] (vS (putV v)) [] := by
  obtain ⟨h0, h5, hb, hk⟩ := okV_parts h
  unfold putV
  rcases (by omega : v.kind = 0 ∨ v.kind = 1 ∨ v.kind = 2 ∨ v.kind = 3 ∨ v.kind = 4 ∨ v.kind = 5) with e | e | e | e | e | e
  · rw [if_pos e]
    clear hb hk h h0 h5
    obtain ⟨kind, yes, ⟨ng, l, sc⟩, day, months, days, text⟩ := v
    dsimp only at e ⊢
    subst e
    refine Ok.walk Tryz.func20 rfl ?_; simp only [startSt, show Tryz.f20.ntmps = 26 from rfl, List.length_cons, List.length_nil, Nat.reduceAdd, Nat.reduceSub, List.replicate, List.cons_append, List.nil_append]
    repeat' first | (with_reducible first | refine W.seq ?_ | refine W.region ?_ | refine W_ret ?_ | refine W.block ?_ | refine Seq.normal ?_ | refine Seq.ret ?_ | refine Blk.ret ?_ | refine aops_nil ?_) | ((with_reducible refine aops_run ?_ (fun K' hK' => ?_)); exact rfl) | ((with_reducible refine hK' _ _ ?_); clear hK'; dsimp only [put, List.set]) | ((with_reducible apply W_cond); (case hc => exact rfl); (case' h2 => (intro hc; replace hc := of_decide_eq_false hc)); (case' h1 => (intro hc; replace hc := of_decide_eq_true hc)); all_goals try (exfalso; first | omega | exact hc rfl | exact hc trivial | exact Bool.noConfusion hc)) | ((with_reducible first | refine Ends.ret ?_ | refine Ends.normal ?_); simp only [aRes, show Tryz.f20.results.toList = [.tmp 2] from rfl, aRess, aResV, oneOf, List.getD_cons_zero, List.getD_cons_succ]) | (simp only [aop, St.eval, List.getD_cons_zero, List.getD_cons_succ, aBin, binI, aLoad, loadPV_one, aField, cellsOf, upd, Nat.mul_one, List.length_cons, List.length_nil, List.drop_zero, if_true, true_and, Nat.reduceAdd, Nat.reduceMul, Nat.reduceLT, Nat.zero_add, Nat.add_zero, fo38_0, ti3]; (all_goals fail_if_success show False))
    all_goals exact Out.flat' rfl
  · rw [if_neg (by omega), if_neg (by omega), if_neg (by omega), if_neg (by omega), if_pos e]
    have hS := l4Says_yes v e
    generalize (if v.yes = true then (⟨#[116, 114, 117, 101]⟩ : ByteArray) else ⟨#[102, 97, 108, 115, 101]⟩) = t at hS ⊢
    clear hb hk h h0 h5
    obtain ⟨kind, yes, ⟨ng, l, sc⟩, day, months, days, text⟩ := v
    dsimp only at e hS ⊢
    subst e
    refine Ok.walk Tryz.func20 rfl ?_; simp only [startSt, show Tryz.f20.ntmps = 26 from rfl, List.length_cons, List.length_nil, Nat.reduceAdd, Nat.reduceSub, List.replicate, List.cons_append, List.nil_append]
    repeat' first | (with_reducible first | refine W.seq ?_ | refine W.region ?_ | refine W_ret ?_ | refine W_skip ?_ | refine W.block ?_ | refine Seq.normal ?_ | refine Blk.normal ?_ | refine aops_nil ?_) | ((with_reducible apply aops_callF); (case hg => exact rfl); (case ho => exact rfl); (case hc => exact rfl); (case hf => exact rfl); (case hok => first | exact hS); (case hcal => first | assumption | kernel_rfl); (case hcl => (with_reducible simp only [List.map_cons, List.map_nil, List.forall_mem_cons, St.eval, List.getD_cons_zero, List.getD_cons_succ]); (repeat' with_reducible first | exact Cln.b _ | exact cln_strs | exact cln_wts | exact cln_vI | exact cln_nil | refine And.intro ?_ ?_ | refine Cln.agg ?_ | rw [List.forall_mem_cons])); (case' h => dsimp only [put, List.set])) | ((with_reducible refine aops_run ?_ (fun K' hK' => ?_)); exact rfl) | ((with_reducible refine hK' _ _ ?_); clear hK'; dsimp only [put, List.set]) | ((with_reducible apply W_cond); (case hc => exact rfl); (case' h2 => (intro hc; replace hc := of_decide_eq_false hc)); (case' h1 => (intro hc; replace hc := of_decide_eq_true hc)); all_goals try (exfalso; first | omega | exact hc rfl | exact hc trivial | exact Bool.noConfusion hc)) | ((with_reducible first | refine Ends.ret ?_ | refine Ends.normal ?_); simp only [aRes, show Tryz.f20.results.toList = [.tmp 2] from rfl, aRess, aResV, oneOf, List.getD_cons_zero, List.getD_cons_succ]) | (simp only [aop, St.eval, List.getD_cons_zero, List.getD_cons_succ, aBin, binI, aLoad, loadPV_one, loadPV_agg, aField, cellsOf, upd, Nat.mul_one, List.length_cons, List.length_nil, List.drop_zero, List.take_succ_cons, List.take_zero, if_true, true_and, Nat.reduceAdd, Nat.reduceMul, Nat.reduceLT, Nat.reduceLeDiff, Nat.zero_add, Nat.add_zero, fo38_0, ti3, ti38]; (all_goals fail_if_success show False))
    all_goals exact Out.flat' rfl
  · rw [if_neg (by omega), if_neg (by omega), if_neg (by omega), if_neg (by omega), if_neg (by omega)]
    rw [if_pos e] at hk
    have hS := l4Says_num v e hk
    generalize decT v.num = t at hS ⊢
    clear hb hk h h0 h5
    obtain ⟨kind, yes, ⟨ng, l, sc⟩, day, months, days, text⟩ := v
    dsimp only at e hS ⊢
    subst e
    refine Ok.walk Tryz.func20 rfl ?_; simp only [startSt, show Tryz.f20.ntmps = 26 from rfl, List.length_cons, List.length_nil, Nat.reduceAdd, Nat.reduceSub, List.replicate, List.cons_append, List.nil_append]
    repeat' first | (with_reducible first | refine W.seq ?_ | refine W.region ?_ | refine W_ret ?_ | refine W_skip ?_ | refine W.block ?_ | refine Seq.normal ?_ | refine Blk.normal ?_ | refine aops_nil ?_) | ((with_reducible apply aops_callF); (case hg => exact rfl); (case ho => exact rfl); (case hc => exact rfl); (case hf => exact rfl); (case hok => first | exact hS); (case hcal => first | assumption | kernel_rfl); (case hcl => (with_reducible simp only [List.map_cons, List.map_nil, List.forall_mem_cons, St.eval, List.getD_cons_zero, List.getD_cons_succ]); (repeat' with_reducible first | exact Cln.b _ | exact cln_strs | exact cln_wts | exact cln_vI | exact cln_nil | refine And.intro ?_ ?_ | refine Cln.agg ?_ | rw [List.forall_mem_cons])); (case' h => dsimp only [put, List.set])) | ((with_reducible refine aops_run ?_ (fun K' hK' => ?_)); exact rfl) | ((with_reducible refine hK' _ _ ?_); clear hK'; dsimp only [put, List.set]) | ((with_reducible apply W_cond); (case hc => exact rfl); (case' h2 => (intro hc; replace hc := of_decide_eq_false hc)); (case' h1 => (intro hc; replace hc := of_decide_eq_true hc)); all_goals try (exfalso; first | omega | exact hc rfl | exact hc trivial | exact Bool.noConfusion hc)) | ((with_reducible first | refine Ends.ret ?_ | refine Ends.normal ?_); simp only [aRes, show Tryz.f20.results.toList = [.tmp 2] from rfl, aRess, aResV, oneOf, List.getD_cons_zero, List.getD_cons_succ]) | (simp only [aop, St.eval, List.getD_cons_zero, List.getD_cons_succ, aBin, binI, aLoad, loadPV_one, loadPV_agg, aField, cellsOf, upd, Nat.mul_one, List.length_cons, List.length_nil, List.drop_zero, List.take_succ_cons, List.take_zero, if_true, true_and, Nat.reduceAdd, Nat.reduceMul, Nat.reduceLT, Nat.reduceLeDiff, Nat.zero_add, Nat.add_zero, fo38_0, ti3, ti38]; (all_goals fail_if_success show False))
    all_goals exact Out.flat' rfl
  · rw [if_neg (by omega), if_pos e]
    rw [if_neg (by omega), if_pos e] at hk
    have hk := of_decide_eq_true hk
    have hS := l3PutT_ok v.day hk
    have hz := dayT_size hk
    generalize dayT v.day = t at hS hz ⊢
    clear hb hk h h0 h5
    obtain ⟨kind, yes, ⟨ng, l, sc⟩, day, months, days, text⟩ := v
    dsimp only at e hS ⊢
    subst e
    refine Ok.walk Tryz.func20 rfl ?_; simp only [startSt, show Tryz.f20.ntmps = 26 from rfl, List.length_cons, List.length_nil, Nat.reduceAdd, Nat.reduceSub, List.replicate, List.cons_append, List.nil_append]
    repeat' first | (with_reducible first | refine W.seq ?_ | refine W.region ?_ | refine W_ret ?_ | refine W.block ?_ | refine Seq.normal ?_ | refine Seq.ret ?_ | refine Blk.ret ?_ | refine aops_nil ?_) | ((with_reducible apply aops_callF); (case hg => exact rfl); (case ho => exact rfl); (case hc => exact rfl); (case hf => exact rfl); (case hok => first | exact hS); (case hcal => first | assumption | kernel_rfl); (case hcl => (with_reducible simp only [List.map_cons, List.map_nil, List.forall_mem_cons, St.eval, List.getD_cons_zero, List.getD_cons_succ]); (repeat' with_reducible first | exact Cln.b _ | exact cln_strs | exact cln_wts | exact cln_vI | exact cln_nil | refine And.intro ?_ ?_ | refine Cln.agg ?_ | rw [List.forall_mem_cons])); (case' h => dsimp only [put, List.set])) | ((with_reducible refine aops_run ?_ (fun K' hK' => ?_)); exact rfl) | ((with_reducible refine hK' _ _ ?_); clear hK'; dsimp only [put, List.set]) | ((with_reducible apply W_cond); (case hc => exact rfl); (case' h2 => (intro hc; replace hc := of_decide_eq_false hc)); (case' h1 => (intro hc; replace hc := of_decide_eq_true hc)); all_goals try (exfalso; first | omega | exact hc rfl | exact hc trivial | exact Bool.noConfusion hc)) | (with_reducible first | refine And.intro ?_ ?_) | ((with_reducible show _ + _ ≤ 9223372036854775807); (simp only [bytes_size, List.length_cons, List.length_nil, List.size_toArray]; omega)) | ((with_reducible first | refine Ends.ret ?_ | refine Ends.normal ?_); simp only [aRes, show Tryz.f20.results.toList = [.tmp 2] from rfl, aRess, aResV, oneOf, List.getD_cons_zero, List.getD_cons_succ]) | (simp only [aop, St.eval, List.getD_cons_zero, List.getD_cons_succ, aBin, binI, binS, aLoad, loadPV_one, aField, cellsOf, upd, Nat.mul_one, List.length_cons, List.length_nil, List.drop_zero, List.drop_succ_cons, if_true, true_and, Nat.reduceAdd, Nat.reduceMul, Nat.reduceLT, Nat.zero_add, Nat.add_zero, fo38_0, fo38_3, ti3]; (all_goals fail_if_success show False))
    all_goals exact Out.flat' rfl
  · rw [if_neg (by omega), if_neg (by omega), if_pos e]
    rw [if_neg (by omega), if_neg (by omega), if_pos e] at hk
    have hS := l3SpanPut_ok v.months v.days hk
    have hz := spanT_size hk
    generalize spanT v.months v.days = t at hS hz ⊢
    clear hb hk h h0 h5
    obtain ⟨kind, yes, ⟨ng, l, sc⟩, day, months, days, text⟩ := v
    dsimp only at e hS ⊢
    subst e
    refine Ok.walk Tryz.func20 rfl ?_; simp only [startSt, show Tryz.f20.ntmps = 26 from rfl, List.length_cons, List.length_nil, Nat.reduceAdd, Nat.reduceSub, List.replicate, List.cons_append, List.nil_append]
    repeat' first | (with_reducible first | refine W.seq ?_ | refine W.region ?_ | refine W_ret ?_ | refine W.block ?_ | refine Seq.normal ?_ | refine Seq.ret ?_ | refine Blk.ret ?_ | refine aops_nil ?_) | ((with_reducible apply aops_callF); (case hg => exact rfl); (case ho => exact rfl); (case hc => exact rfl); (case hf => exact rfl); (case hok => first | exact hS); (case hcal => first | assumption | kernel_rfl); (case hcl => (with_reducible simp only [List.map_cons, List.map_nil, List.forall_mem_cons, St.eval, List.getD_cons_zero, List.getD_cons_succ]); (repeat' with_reducible first | exact Cln.b _ | exact cln_strs | exact cln_wts | exact cln_vI | exact cln_nil | refine And.intro ?_ ?_ | refine Cln.agg ?_ | rw [List.forall_mem_cons])); (case' h => dsimp only [put, List.set])) | ((with_reducible refine aops_run ?_ (fun K' hK' => ?_)); exact rfl) | ((with_reducible refine hK' _ _ ?_); clear hK'; dsimp only [put, List.set]) | ((with_reducible apply W_cond); (case hc => exact rfl); (case' h2 => (intro hc; replace hc := of_decide_eq_false hc)); (case' h1 => (intro hc; replace hc := of_decide_eq_true hc)); all_goals try (exfalso; first | omega | exact hc rfl | exact hc trivial | exact Bool.noConfusion hc)) | (with_reducible first | refine And.intro ?_ ?_) | ((with_reducible show _ + _ ≤ 9223372036854775807); (simp only [bytes_size, List.length_cons, List.length_nil, List.size_toArray]; omega)) | ((with_reducible first | refine Ends.ret ?_ | refine Ends.normal ?_); simp only [aRes, show Tryz.f20.results.toList = [.tmp 2] from rfl, aRess, aResV, oneOf, List.getD_cons_zero, List.getD_cons_succ]) | (simp only [aop, St.eval, List.getD_cons_zero, List.getD_cons_succ, aBin, binI, binS, aLoad, loadPV_one, loadPV_agg, aField, cellsOf, upd, Nat.mul_one, List.length_cons, List.length_nil, List.drop_zero, List.drop_succ_cons, List.take_succ_cons, List.take_zero, if_true, true_and, Nat.reduceAdd, Nat.reduceMul, Nat.reduceLT, Nat.reduceLeDiff, Nat.zero_add, Nat.add_zero, fo38_0, fo38_4, ti3, ti36]; (all_goals fail_if_success show False))
    all_goals exact Out.flat' rfl
  · rw [if_neg (by omega), if_neg (by omega), if_neg (by omega), if_pos e]
    rw [if_neg (by omega), if_neg (by omega), if_neg (by omega)] at hk
    have hz : v.text.size ≤ 12 := by unfold okT at hk; rw [Bool.and_eq_true] at hk; exact of_decide_eq_true hk.2
    have hS := l4Quote_ok v.text (by omega)
    generalize quoT v.text = t at hS ⊢
    clear hb hk h h0 h5
    obtain ⟨kind, yes, ⟨ng, l, sc⟩, day, months, days, text⟩ := v
    dsimp only at e hS ⊢
    subst e
    refine Ok.walk Tryz.func20 rfl ?_; simp only [startSt, show Tryz.f20.ntmps = 26 from rfl, List.length_cons, List.length_nil, Nat.reduceAdd, Nat.reduceSub, List.replicate, List.cons_append, List.nil_append]
    repeat' first | (with_reducible first | refine W.seq ?_ | refine W.region ?_ | refine W_ret ?_ | refine W.block ?_ | refine Seq.normal ?_ | refine Seq.ret ?_ | refine Blk.ret ?_ | refine aops_nil ?_) | ((with_reducible apply aops_callF); (case hg => exact rfl); (case ho => exact rfl); (case hc => exact rfl); (case hf => exact rfl); (case hok => first | exact hS); (case hcal => first | assumption | kernel_rfl); (case hcl => (with_reducible simp only [List.map_cons, List.map_nil, List.forall_mem_cons, St.eval, List.getD_cons_zero, List.getD_cons_succ]); (repeat' with_reducible first | exact Cln.b _ | exact cln_strs | exact cln_wts | exact cln_vI | exact cln_nil | refine And.intro ?_ ?_ | refine Cln.agg ?_ | rw [List.forall_mem_cons])); (case' h => dsimp only [put, List.set])) | ((with_reducible refine aops_run ?_ (fun K' hK' => ?_)); exact rfl) | ((with_reducible refine hK' _ _ ?_); clear hK'; dsimp only [put, List.set]) | ((with_reducible apply W_cond); (case hc => exact rfl); (case' h2 => (intro hc; replace hc := of_decide_eq_false hc)); (case' h1 => (intro hc; replace hc := of_decide_eq_true hc)); all_goals try (exfalso; first | omega | exact hc rfl | exact hc trivial | exact Bool.noConfusion hc)) | ((with_reducible first | refine Ends.ret ?_ | refine Ends.normal ?_); simp only [aRes, show Tryz.f20.results.toList = [.tmp 2] from rfl, aRess, aResV, oneOf, List.getD_cons_zero, List.getD_cons_succ]) | (simp only [aop, St.eval, List.getD_cons_zero, List.getD_cons_succ, aBin, binI, aLoad, loadPV_one, aField, cellsOf, upd, Nat.mul_one, List.length_cons, List.length_nil, List.drop_zero, List.drop_succ_cons, if_true, true_and, Nat.reduceAdd, Nat.reduceMul, Nat.reduceLT, Nat.zero_add, Nat.add_zero, fo38_0, fo38_5, ti3, ti9]; (all_goals fail_if_success show False))
    all_goals exact Out.flat' rfl
theorem specPut_ok (v : Vl) (h : v.num.limbs.length ≤ 2000000) (ht : v.text.size ≤ 9223372036854775807) : Ok Tryz.prog 6 [vVl v] (vS (putO (okV v) v)) [] := by
  have hO := l4Ok_ok v h ht
  unfold putO
  cases hk : okV v with
  | false =>
    rw [hk] at hO
    rw [if_neg (by decide)]
    obtain ⟨kind, yes, ⟨ng, l, sc⟩, day, months, days, text⟩ := v
    dsimp only at h ht hO ⊢
    refine Ok.walk Tryz.func6 rfl ?_; simp only [startSt, show Tryz.f6.ntmps = 8 from rfl, List.length_cons, List.length_nil, Nat.reduceAdd, Nat.reduceSub, List.replicate, List.cons_append, List.nil_append]
    repeat' first | (with_reducible first | refine W.seq ?_ | refine W.region ?_ | refine W_ret ?_ | refine Seq.normal ?_ | refine Seq.ret ?_ | refine aops_nil ?_) | ((with_reducible apply aops_callF); (case hg => exact rfl); (case ho => exact rfl); (case hc => exact rfl); (case hf => exact rfl); (case hok => first | exact hO); (case hcal => first | assumption | kernel_rfl); (case hcl => (with_reducible simp only [List.map_cons, List.map_nil, List.forall_mem_cons, St.eval, List.getD_cons_zero, List.getD_cons_succ]); (repeat' with_reducible first | exact Cln.b _ | exact cln_strs | exact cln_wts | exact cln_vI | exact cln_nil | refine And.intro ?_ ?_ | refine Cln.agg ?_ | rw [List.forall_mem_cons])); (case' h => dsimp only [put, List.set])) | ((with_reducible refine aops_run ?_ (fun K' hK' => ?_)); exact rfl) | ((with_reducible refine hK' _ _ ?_); clear hK'; dsimp only [put, List.set]) | ((with_reducible apply W_cond); (case hc => exact rfl); (case' h2 => (intro hc; replace hc := nbF hc)); (case' h1 => (intro hc; replace hc := nbT hc)); all_goals try (exfalso; first | omega | exact hc rfl | exact hc trivial | exact Bool.noConfusion hc)) | ((with_reducible first | refine Ends.ret ?_ | refine Ends.normal ?_); simp only [aRes, show Tryz.f6.results.toList = [.tmp 2] from rfl, aRess, aResV, oneOf, List.getD_cons_zero, List.getD_cons_succ]) | (simp only [aop, St.eval, List.getD_cons_zero, List.getD_cons_succ, aUn, aLoad, loadPV_agg, cellsOf, upd, Nat.mul_one, List.length_cons, List.length_nil, List.drop_zero, List.take_succ_cons, List.take_zero, if_true, true_and, Nat.reduceAdd, Nat.reduceMul, Nat.reduceLT, Nat.reduceLeDiff, Nat.zero_add, Nat.add_zero, ti38]; (all_goals fail_if_success show False))
    all_goals exact Out.flat' rfl
  | true =>
    have hP := l4Put_ok v hk
    rw [hk] at hO
    rw [if_pos rfl]
    generalize putV v = t at hP ⊢
    obtain ⟨kind, yes, ⟨ng, l, sc⟩, day, months, days, text⟩ := v
    dsimp only at h ht hO hP ⊢
    refine Ok.walk Tryz.func6 rfl ?_; simp only [startSt, show Tryz.f6.ntmps = 8 from rfl, List.length_cons, List.length_nil, Nat.reduceAdd, Nat.reduceSub, List.replicate, List.cons_append, List.nil_append]
    repeat' first | (with_reducible first | refine W.seq ?_ | refine W.region ?_ | refine W_ret ?_ | refine W_skip ?_ | refine Seq.normal ?_ | refine aops_nil ?_) | ((with_reducible apply aops_callF); (case hg => exact rfl); (case ho => exact rfl); (case hc => exact rfl); (case hf => exact rfl); (case hok => first | exact hO | exact hP); (case hcal => first | assumption | kernel_rfl); (case hcl => (with_reducible simp only [List.map_cons, List.map_nil, List.forall_mem_cons, St.eval, List.getD_cons_zero, List.getD_cons_succ]); (repeat' with_reducible first | exact Cln.b _ | exact cln_strs | exact cln_wts | exact cln_vI | exact cln_nil | refine And.intro ?_ ?_ | refine Cln.agg ?_ | rw [List.forall_mem_cons])); (case' h => dsimp only [put, List.set])) | ((with_reducible refine aops_run ?_ (fun K' hK' => ?_)); exact rfl) | ((with_reducible refine hK' _ _ ?_); clear hK'; dsimp only [put, List.set]) | ((with_reducible apply W_cond); (case hc => exact rfl); (case' h2 => (intro hc; replace hc := nbF hc)); (case' h1 => (intro hc; replace hc := nbT hc)); all_goals try (exfalso; first | omega | exact hc rfl | exact hc trivial | exact Bool.noConfusion hc)) | ((with_reducible first | refine Ends.ret ?_ | refine Ends.normal ?_); simp only [aRes, show Tryz.f6.results.toList = [.tmp 2] from rfl, aRess, aResV, oneOf, List.getD_cons_zero, List.getD_cons_succ]) | (simp only [aop, St.eval, List.getD_cons_zero, List.getD_cons_succ, aUn, aLoad, loadPV_agg, cellsOf, upd, Nat.mul_one, List.length_cons, List.length_nil, List.drop_zero, List.take_succ_cons, List.take_zero, if_true, true_and, Nat.reduceAdd, Nat.reduceMul, Nat.reduceLT, Nat.reduceLeDiff, Nat.zero_add, Nat.add_zero, ti38]; (all_goals fail_if_success show False))
    all_goals exact Out.flat' rfl
end Go.Proofs.YtneapbfomhalpaaGreatDoor.T
