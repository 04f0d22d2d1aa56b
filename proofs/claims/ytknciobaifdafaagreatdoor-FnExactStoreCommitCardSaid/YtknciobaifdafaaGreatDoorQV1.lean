/- Walks of the laws' helpers, part 1: how large an input is. -/
import Derived.Test.YtknciobaifdafaaGreatDoorQD
set_option linter.unusedVariables false
set_option maxRecDepth 100000
set_option maxHeartbeats 4000000
set_option linter.unusedSimpArgs false
namespace Go.Proofs.YtknciobaifdafaaGreatDoor.T
open Go Go.Pv Go.Proofs.YtknciobaifdafaaGreatDoor.EF
theorem szS_ok (l : List ByteArray) (left : Int) (h0 : 0 ≤ left ∧ left ≤ 1048576) (hl : l.length ≤ 9223372036854775807) (hs : ∀ k, (l.getD k ByteArray.empty).size ≤ 9223372036854775807) : Ok Tryz.prog 46 [.val l.length (l.map vS), vI left] (vI (sub left (wS l))) [] := by
  refine Ok.walk Tryz.func46 rfl ?_; simp only [startSt, show Tryz.f46.ntmps = 28 from rfl, List.length_cons, List.length_nil, Nat.reduceAdd, Nat.reduceSub, List.replicate, List.cons_append, List.nil_append]
  repeat' first | (with_reducible first | refine W.seq ?_ | refine W.region ?_ | refine W_ret ?_ | refine W_skip ?_ | refine W.block ?_ | refine Seq.normal ?_ | refine Seq.ret ?_ | refine aops_nil ?_) | ((with_reducible refine aops_run ?_ (fun K' hK' => ?_)); exact rfl) | ((with_reducible refine hK' _ _ ?_); clear hK'; dsimp only [put, List.set]) | ((with_reducible apply W_cond); (case hc => exact rfl); (case' h2 => (intro hc; replace hc := of_decide_eq_false hc)); (case' h1 => (intro hc; replace hc := of_decide_eq_true hc)); all_goals try (exfalso; first | omega | exact hc rfl | exact hc trivial | exact Bool.noConfusion hc)) | ((with_reducible first | refine Ends.ret ?_ | refine Ends.normal ?_); simp only [aRes, show Tryz.f46.results.toList = [.tmp 4] from rfl, aRess, aResV, oneOf, List.getD_cons_zero, List.getD_cons_succ]) | (simp only [aop, Option.isSome_some, St.eval, List.getD_cons_zero, List.getD_cons_succ, aBin, binI, aLen, aBuiltin, List.map_cons, List.map_nil, true_and, se22]; (all_goals fail_if_success show False))
  · have := wTo_le (l.length) (fun k => (l.getD k ByteArray.empty).size) 0 l.length (Nat.zero_le _)
    rw [wrap_id (by omega) (by omega)] at hc
    exact Out.flat' (congrArg (Value.int .i64) (by unfold sub wS; rw [if_neg]; simp only [wTo] at this; omega))
  have hw0 : IntKind.i64.wrap (left - (l.length : Int)) = left - wTo l.length (fun k => (l.getD k ByteArray.empty).size) 0 := by rw [wrap_id (by omega) (by omega)]; rfl
  rw [hw0] at hc ⊢
  refine W.loop (fun i : Nat => ⟨[.val l.length (l.map vS), vI (left - wTo l.length (fun k => (l.getD k ByteArray.empty).size) i), .any, .any, .any, vI i, .any, .any, .any, .any, .any, .any, .any, .any, .any, .any, .any, .any, .any, .any, .any, .any, .any, .any, .any, .any, .any, .any], noMem⟩) (fun i => i ≤ l.length ∧ 0 ≤ left - wTo l.length (fun k => (l.getD k ByteArray.empty).size) i) (fun i => l.length - i) 0 ?wk0 ⟨Nat.zero_le _, by omega⟩ (fun i hi => ?_)
  case wk0 => exact Weak.flat rfl (by simp [All2, vw, vwA, vwC, clean_b, clean_strs])
  obtain ⟨hi, hp⟩ := hi
  have hsi := hs i
  have hb := wTo_ge l.length (fun k => (l.getD k ByteArray.empty).size) i
  have hst : wTo l.length (fun k => (l.getD k ByteArray.empty).size) (i + 1) = wTo l.length (fun k => (l.getD k ByteArray.empty).size) i + ((l.getD i ByteArray.empty).size : Nat) := rfl
  have hw : IntKind.i64.wrap (left - wTo l.length (fun k => (l.getD k ByteArray.empty).size) i - ((l.getD i ByteArray.empty).size : Nat)) = left - wTo l.length (fun k => (l.getD k ByteArray.empty).size) (i + 1) := by rw [wrap_id (by omega) (by omega), hst]; omega
  repeat' first | (with_reducible first | refine W.seq ?_ | refine W.region ?_ | refine W_ret ?_ | refine W_skip ?_ | refine W_exit ?_ | refine W.block ?_ | refine Seq.normal ?_ | refine Seq.ret ?_ | refine Seq.exit ?_ | refine Blk.normal ?_ | refine Blk.same ?_ | refine Blk.ret ?_ | refine Rnd.exit ?_ | refine Rnd.ret ?_ | refine aops_nil ?_ | refine load_strs ?_ ?_) | ((with_reducible refine aops_run ?_ (fun K' hK' => ?_)); exact rfl) | ((with_reducible refine hK' _ _ ?_); clear hK'; dsimp only [put, List.set]) | ((with_reducible apply W_cond); (case hc => exact rfl); (case' h2 => (intro hc; replace hc := of_decide_eq_false hc)); (case' h1 => (intro hc; replace hc := of_decide_eq_true hc)); all_goals try (exfalso; first | omega | exact hc rfl | exact hc trivial | exact Bool.noConfusion hc)) | (with_reducible first | refine And.intro ?_ ?_) | ((with_reducible first | show (_ : Int) < _ | show (_ : Int) ≤ _ | show (_ : Int) ≠ _ | show (_ : Nat) < _ | show (_ : Nat) ≤ _ | show (_ : Nat) ≠ _); omega) | ((with_reducible first | refine Ends.ret ?_ | refine Ends.normal ?_); simp only [aRes, show Tryz.f46.results.toList = [.tmp 4] from rfl, aRess, aResV, oneOf, List.getD_cons_zero, List.getD_cons_succ]) | (simp only [aop, Option.isSome_some, St.eval, List.getD_cons_zero, List.getD_cons_succ, aBin, binI, aLoad, aIndex, aLen, aBuiltin, Int.toNat_natCast, Nat.mul_one, List.map_cons, List.map_nil, true_and, se22, ti9, us9]; (all_goals fail_if_success show False))
  · rw [hw] at hc
    have := wTo_le l.length (fun k => (l.getD k ByteArray.empty).size) (i + 1) l.length (by omega)
    exact Out.flat' (congrArg (Value.int .i64) (by unfold sub wS; rw [if_neg]; omega))
  · rw [hw] at hc ⊢
    refine Rnd.normal (i + 1) ⟨by omega, by omega⟩ (by omega) ?_
    rw [wrap_id (x := (i : Int) + 1) (by omega) (by omega)]
    exact Weak.flat rfl (by simp [All2, vw, vwA, vwC, clean_b, clean_strs])
  · obtain rfl : i = l.length := by omega
    exact Out.flat' (congrArg (Value.int .i64) (by unfold sub wS; rw [if_pos]; omega))
theorem szWait_ok (x : Wt) (left : Int) (h0 : 0 ≤ left ∧ left ≤ 1048576) (hs : x.text.size ≤ 9223372036854775807) : Ok Tryz.prog 139 [vWt x, vI left] (vI (sub left x.text.size)) [] := by
  have hw : IntKind.i64.wrap (left - (x.text.size : Nat)) = left - (x.text.size : Nat) := wrap_id (by omega) (by omega)
  refine Ok.walk Tryz.func139 rfl ?_; simp only [startSt, show Tryz.f139.ntmps = 13 from rfl, List.length_cons, List.length_nil, Nat.reduceAdd, Nat.reduceSub, List.replicate, List.cons_append, List.nil_append]
  repeat' first | (with_reducible first | refine W.seq ?_ | refine W.region ?_ | refine W_ret ?_ | refine W_skip ?_ | refine Seq.normal ?_ | refine Seq.ret ?_ | refine aops_nil ?_) | ((with_reducible refine aops_run ?_ (fun K' hK' => ?_)); exact rfl) | ((with_reducible refine hK' _ _ ?_); clear hK'; dsimp only [put, List.set]) | ((with_reducible apply W_cond); (case hc => exact rfl); (case' h2 => (intro hc; replace hc := of_decide_eq_false hc)); (case' h1 => (intro hc; replace hc := of_decide_eq_true hc)); all_goals try (exfalso; first | omega | exact hc rfl | exact hc trivial | exact Bool.noConfusion hc)) | ((with_reducible first | refine Ends.ret ?_ | refine Ends.normal ?_); simp only [aRes, show Tryz.f139.results.toList = [.tmp 4] from rfl, aRess, aResV, oneOf, List.getD_cons_zero, List.getD_cons_succ]) | (simp only [aop, St.eval, List.getD_cons_zero, List.getD_cons_succ, aBin, binI, aLoad, loadPV_one, aField, aLen, aBuiltin, cellsOf, upd, Nat.mul_one, List.map_cons, List.map_nil, List.length_cons, List.length_nil, List.drop_zero, List.drop_succ_cons, if_true, true_and, Nat.reduceAdd, Nat.reduceMul, Nat.reduceLT, Nat.zero_add, Nat.add_zero, fo150_1, ti9, us9]; (all_goals fail_if_success show False))
  · rw [hw] at hc; exact Out.flat' (congrArg (Value.int .i64) (by unfold sub; rw [if_neg]; omega))
  · rw [hw] at hc ⊢; exact Out.flat' (congrArg (Value.int .i64) (by unfold sub; rw [if_pos]; omega))
theorem szW_ok (l : List Wt) (left : Int) (h0 : 0 ≤ left ∧ left ≤ 1048576) (hl : l.length ≤ 9223372036854775807) (hs : ∀ k, (l.getD k wt0).text.size ≤ 9223372036854775807) : Ok Tryz.prog 92 [vWts l, vI left] (vI (sub left (wW l))) [] := by
  refine Ok.walk Tryz.func92 rfl ?_; simp only [startSt, show Tryz.f92.ntmps = 27 from rfl, List.length_cons, List.length_nil, Nat.reduceAdd, Nat.reduceSub, List.replicate, List.cons_append, List.nil_append]
  repeat' first | (with_reducible first | refine W.seq ?_ | refine W.region ?_ | refine W_ret ?_ | refine W_skip ?_ | refine W.block ?_ | refine Seq.normal ?_ | refine Seq.ret ?_ | refine aops_nil ?_) | ((with_reducible refine aops_run ?_ (fun K' hK' => ?_)); exact rfl) | ((with_reducible refine hK' _ _ ?_); clear hK'; dsimp only [put, List.set]) | ((with_reducible apply W_cond); (case hc => exact rfl); (case' h2 => (intro hc; replace hc := of_decide_eq_false hc)); (case' h1 => (intro hc; replace hc := of_decide_eq_true hc)); all_goals try (exfalso; first | omega | exact hc rfl | exact hc trivial | exact Bool.noConfusion hc)) | ((with_reducible first | refine Ends.ret ?_ | refine Ends.normal ?_); simp only [aRes, show Tryz.f92.results.toList = [.tmp 4] from rfl, aRess, aResV, oneOf, List.getD_cons_zero, List.getD_cons_succ]) | (simp only [aop, Option.isSome_some, St.eval, List.getD_cons_zero, List.getD_cons_succ, aBin, binI, aLen, aBuiltin, List.map_cons, List.map_nil, true_and, se23]; (all_goals fail_if_success show False))
  · have := wTo_le (l.length) (fun k => (l.getD k wt0).text.size) 0 l.length (Nat.zero_le _)
    rw [wrap_id (by omega) (by omega)] at hc
    exact Out.flat' (congrArg (Value.int .i64) (by unfold sub wW; rw [if_neg]; simp only [wTo] at this; omega))
  have hw0 : IntKind.i64.wrap (left - (l.length : Int)) = left - wTo l.length (fun k => (l.getD k wt0).text.size) 0 := by rw [wrap_id (by omega) (by omega)]; rfl
  rw [hw0] at hc ⊢
  refine W.loop (fun i : Nat => ⟨[vWts l, vI (left - wTo l.length (fun k => (l.getD k wt0).text.size) i), .any, .any, .any, vI i, .any, .any, .any, .any, .any, .any, .any, .any, .any, .any, .any, .any, .any, .any, .any, .any, .any, .any, .any, .any, .any], noMem⟩) (fun i => i ≤ l.length ∧ 0 ≤ left - wTo l.length (fun k => (l.getD k wt0).text.size) i) (fun i => l.length - i) 0 ?wk0 ⟨Nat.zero_le _, by omega⟩ (fun i hi => ?_)
  case wk0 => exact Weak.flat rfl (by simp [All2, vw, vwA, vwC, clean_b, clean_wts])
  obtain ⟨hi, hp⟩ := hi
  have hsi := hs i
  have hb := wTo_ge l.length (fun k => (l.getD k wt0).text.size) i
  have hst : wTo l.length (fun k => (l.getD k wt0).text.size) (i + 1) = wTo l.length (fun k => (l.getD k wt0).text.size) i + ((l.getD i wt0).text.size : Nat) := rfl
  by_cases hil : i < l.length
  · have hd := drop_wts hil
    have hwt : Ok Tryz.prog 139 [.agg [vI (l.getD i wt0).cell, vS (l.getD i wt0).text], vI (left - wTo l.length (fun k => (l.getD k wt0).text.size) i)] (vI (sub (left - wTo l.length (fun k => (l.getD k wt0).text.size) i) (l.getD i wt0).text.size)) [] := szWait_ok (l.getD i wt0) _ ⟨hp, by omega⟩ hsi
    repeat' first | (with_reducible first | refine W.seq ?_ | refine W.region ?_ | refine W_ret ?_ | refine W_skip ?_ | refine W.block ?_ | refine Seq.normal ?_ | refine Seq.ret ?_ | refine Blk.normal ?_ | refine Blk.ret ?_ | refine Rnd.ret ?_ | refine aops_nil ?_) | ((with_reducible apply aops_callF); (case hg => exact rfl); (case ho => exact rfl); (case hc => exact rfl); (case hf => exact rfl); (case hok => first | exact hwt); (case hcal => first | assumption | kernel_rfl); (case hcl => (with_reducible simp only [List.map_cons, List.map_nil, List.forall_mem_cons, St.eval, List.getD_cons_zero, List.getD_cons_succ]); (repeat' with_reducible first | exact Cln.b _ | exact cln_strs | exact cln_wts | exact cln_nil | refine And.intro ?_ ?_ | refine Cln.agg ?_ | rw [List.forall_mem_cons])); (case' h => dsimp only [put, List.set])) | ((with_reducible refine aops_run ?_ (fun K' hK' => ?_)); exact rfl) | ((with_reducible refine hK' _ _ ?_); clear hK'; dsimp only [put, List.set]) | ((with_reducible apply W_cond); (case hc => exact rfl); (case' h2 => (intro hc; replace hc := of_decide_eq_false hc)); (case' h1 => (intro hc; replace hc := of_decide_eq_true hc)); all_goals try (exfalso; first | omega | exact hc rfl | exact hc trivial | exact Bool.noConfusion hc)) | (with_reducible first | refine And.intro ?_ ?_) | ((with_reducible first | show (_ : Int) < _ | show (_ : Int) ≤ _ | show (_ : Int) ≠ _ | show (_ : Nat) < _ | show (_ : Nat) ≤ _ | show (_ : Nat) ≠ _); omega) | ((with_reducible first | refine Ends.ret ?_ | refine Ends.normal ?_); simp only [aRes, show Tryz.f92.results.toList = [.tmp 4] from rfl, aRess, aResV, oneOf, List.getD_cons_zero, List.getD_cons_succ]) | (simp only [aop, Option.isSome_some, St.eval, List.getD_cons_zero, List.getD_cons_succ, aBin, binI, aLoad, loadPV_agg, aIndex, aLen, aBuiltin, Int.toNat_natCast, List.map_cons, List.map_nil, List.length_cons, List.take_succ_cons, List.take_zero, true_and, Nat.reduceLeDiff, hd, List.take_succ_cons, List.take_zero, List.length_cons, se23, ti150]; (all_goals fail_if_success show False))
    · have := wTo_le l.length (fun k => (l.getD k wt0).text.size) (i + 1) l.length (by omega)
      unfold sub at hc
      exact Out.flat' (congrArg (Value.int .i64) (by unfold sub wW; rw [if_neg]; split at hc <;> omega))
    · unfold sub at hc ⊢
      have hle : ((l.getD i wt0).text.size : Int) ≤ left - wTo l.length (fun k => (l.getD k wt0).text.size) i := by
        split at hc
        · assumption
        · omega
      rw [if_pos hle]
      refine Rnd.normal (i + 1) ⟨by omega, by omega⟩ (by omega) ?_
      rw [wrap_id (x := (i : Int) + 1) (by omega) (by omega), show left - wTo l.length (fun k => (l.getD k wt0).text.size) i - ((l.getD i wt0).text.size : Nat) = left - wTo l.length (fun k => (l.getD k wt0).text.size) (i + 1) by omega]
      exact Weak.flat rfl (by simp [All2, vw, vwA, vwC, clean_b, clean_wts])
  · obtain rfl : i = l.length := by omega
    repeat' first | (with_reducible first | refine W.seq ?_ | refine W.region ?_ | refine W_ret ?_ | refine W_exit ?_ | refine Seq.normal ?_ | refine Seq.exit ?_ | refine Blk.same ?_ | refine Rnd.exit ?_ | refine aops_nil ?_) | ((with_reducible refine aops_run ?_ (fun K' hK' => ?_)); exact rfl) | ((with_reducible refine hK' _ _ ?_); clear hK'; dsimp only [put, List.set]) | ((with_reducible apply W_cond); (case hc => exact rfl); (case' h2 => (intro hc; replace hc := of_decide_eq_false hc)); (case' h1 => (intro hc; replace hc := of_decide_eq_true hc)); all_goals try (exfalso; first | omega | exact hc rfl | exact hc trivial | exact Bool.noConfusion hc)) | ((with_reducible first | refine Ends.ret ?_ | refine Ends.normal ?_); simp only [aRes, show Tryz.f92.results.toList = [.tmp 4] from rfl, aRess, aResV, oneOf, List.getD_cons_zero, List.getD_cons_succ]) | (simp only [aop, Option.isSome_some, St.eval, List.getD_cons_zero, List.getD_cons_succ, aBin, binI, aLen, aBuiltin, List.map_cons, List.map_nil, true_and, se23]; (all_goals fail_if_success show False))
    exact Out.flat' (congrArg (Value.int .i64) (by unfold sub wW; rw [if_pos]; omega))
theorem szDisk_ok (d : Dk) (left : Int) (h0 : 0 ≤ left ∧ left ≤ 1048576) (hd : DkIn d) : Ok Tryz.prog 45 [vDk d, vI left] (vI (sub left (wS d.cells + wW d.waits))) [] := by
  obtain ⟨h1, h2, h3, h4⟩ := hd
  have hb1 := wTo_ge d.cells.length (fun k => (d.cells.getD k ByteArray.empty).size) d.cells.length
  have hb2 := wTo_ge d.waits.length (fun k => (d.waits.getD k wt0).text.size) d.waits.length
  have hcs := szS_ok d.cells left h0 h1 h2
  have hws := fun l h => szW_ok d.waits l h h3 h4
  have e1 : wS d.cells = wTo d.cells.length (fun k => (d.cells.getD k ByteArray.empty).size) d.cells.length := rfl
  have e2 : wW d.waits = wTo d.waits.length (fun k => (d.waits.getD k wt0).text.size) d.waits.length := rfl
  rw [← e1] at hb1
  rw [← e2] at hb2
  generalize wS d.cells = a at hcs hb1 ⊢
  generalize wW d.waits = b at hws hb2 ⊢
  by_cases ha : a ≤ left
  · rw [show sub left a = left - a by unfold sub; rw [if_pos ha]] at hcs
    have hws' := hws (left - a) ⟨by omega, by omega⟩
    refine Ok.walk Tryz.func45 rfl ?_; simp only [startSt, show Tryz.f45.ntmps = 18 from rfl, List.length_cons, List.length_nil, Nat.reduceAdd, Nat.reduceSub, List.replicate, List.cons_append, List.nil_append]
    repeat' first | (with_reducible first | refine W.seq ?_ | refine W.region ?_ | refine W_ret ?_ | refine W_skip ?_ | refine Seq.normal ?_ | refine Seq.ret ?_ | refine aops_nil ?_) | ((with_reducible apply aops_callF); (case hg => exact rfl); (case ho => exact rfl); (case hc => exact rfl); (case hf => exact rfl); (case hok => first | exact hcs | exact hws'); (case hcal => first | assumption | kernel_rfl); (case hcl => (with_reducible simp only [List.map_cons, List.map_nil, List.forall_mem_cons, St.eval, List.getD_cons_zero, List.getD_cons_succ]); (repeat' with_reducible first | exact Cln.b _ | exact cln_strs | exact cln_wts | exact cln_nil | refine And.intro ?_ ?_ | refine Cln.agg ?_ | rw [List.forall_mem_cons])); (case' h => dsimp only [put, List.set])) | ((with_reducible refine aops_run ?_ (fun K' hK' => ?_)); exact rfl) | ((with_reducible refine hK' _ _ ?_); clear hK'; dsimp only [put, List.set]) | ((with_reducible apply W_cond); (case hc => exact rfl); (case' h2 => (intro hc; replace hc := of_decide_eq_false hc)); (case' h1 => (intro hc; replace hc := of_decide_eq_true hc)); all_goals try (exfalso; first | omega | exact hc rfl | exact hc trivial | exact Bool.noConfusion hc)) | ((with_reducible first | refine Ends.ret ?_ | refine Ends.normal ?_); simp only [aRes, show Tryz.f45.results.toList = [.tmp 4] from rfl, aRess, aResV, oneOf, List.getD_cons_zero, List.getD_cons_succ]) | (simp only [aop, St.eval, List.getD_cons_zero, List.getD_cons_succ, aBin, binI, aLoad, loadPV_one, aField, cellsOf, upd, Nat.mul_one, List.length_cons, List.length_nil, List.drop_zero, List.drop_succ_cons, if_true, true_and, Nat.reduceAdd, Nat.reduceMul, Nat.reduceLT, Nat.zero_add, Nat.add_zero, fo25_0, fo25_1, ti22, ti23]; (all_goals fail_if_success show False))
    · unfold sub at hc
      exact Out.flat' (congrArg (Value.int .i64) (by unfold sub; rw [if_neg]; split at hc <;> omega))
    · unfold sub at hc ⊢
      split at hc
      · exact Out.flat' (congrArg (Value.int .i64) (by rw [if_pos (by omega), if_pos (by omega)]; omega))
      · omega
  · rw [show sub left a = -1 by unfold sub; rw [if_neg ha]] at hcs
    refine Ok.walk Tryz.func45 rfl ?_; simp only [startSt, show Tryz.f45.ntmps = 18 from rfl, List.length_cons, List.length_nil, Nat.reduceAdd, Nat.reduceSub, List.replicate, List.cons_append, List.nil_append]
    repeat' first | (with_reducible first | refine W.seq ?_ | refine W.region ?_ | refine W_ret ?_ | refine Seq.normal ?_ | refine Seq.ret ?_ | refine aops_nil ?_) | ((with_reducible apply aops_callF); (case hg => exact rfl); (case ho => exact rfl); (case hc => exact rfl); (case hf => exact rfl); (case hok => first | exact hcs); (case hcal => first | assumption | kernel_rfl); (case hcl => (with_reducible simp only [List.map_cons, List.map_nil, List.forall_mem_cons, St.eval, List.getD_cons_zero, List.getD_cons_succ]); (repeat' with_reducible first | exact Cln.b _ | exact cln_strs | exact cln_wts | exact cln_nil | refine And.intro ?_ ?_ | refine Cln.agg ?_ | rw [List.forall_mem_cons])); (case' h => dsimp only [put, List.set])) | ((with_reducible refine aops_run ?_ (fun K' hK' => ?_)); exact rfl) | ((with_reducible refine hK' _ _ ?_); clear hK'; dsimp only [put, List.set]) | ((with_reducible apply W_cond); (case hc => exact rfl); (case' h2 => (intro hc; replace hc := of_decide_eq_false hc)); (case' h1 => (intro hc; replace hc := of_decide_eq_true hc)); all_goals try (exfalso; first | omega | exact hc rfl | exact hc trivial | exact Bool.noConfusion hc)) | ((with_reducible first | refine Ends.ret ?_ | refine Ends.normal ?_); simp only [aRes, show Tryz.f45.results.toList = [.tmp 4] from rfl, aRess, aResV, oneOf, List.getD_cons_zero, List.getD_cons_succ]) | (simp only [aop, St.eval, List.getD_cons_zero, List.getD_cons_succ, aBin, binI, aLoad, loadPV_one, aField, cellsOf, upd, Nat.mul_one, List.length_cons, List.length_nil, List.drop_zero, if_true, true_and, Nat.reduceAdd, Nat.reduceMul, Nat.reduceLT, Nat.zero_add, Nat.add_zero, fo25_0, ti22]; (all_goals fail_if_success show False))
    exact Out.flat' (congrArg (Value.int .i64) (by unfold sub; rw [if_neg (by omega)]))
theorem szStore_ok (s : Stor) (left : Int) (h0 : 0 ≤ left ∧ left ≤ 1048576) (hd : DkIn s.disk) (h3 : s.pages.length ≤ 9223372036854775807) (h4 : ∀ k, (s.pages.getD k ByteArray.empty).size ≤ 9223372036854775807) : Ok Tryz.prog 12 [vStor s, vI left] (vI (sub left (wS s.disk.cells + wW s.disk.waits + wS s.pages))) [] := by
  have hcs := szDisk_ok s.disk left h0 hd
  have hb1 := wTo_ge s.disk.cells.length (fun k => (s.disk.cells.getD k ByteArray.empty).size) s.disk.cells.length
  have hb3 := wTo_ge s.disk.waits.length (fun k => (s.disk.waits.getD k wt0).text.size) s.disk.waits.length
  have hb2 := wTo_ge s.pages.length (fun k => (s.pages.getD k ByteArray.empty).size) s.pages.length
  have hws := fun l h => szS_ok s.pages l h h3 h4
  have e1 : wS s.disk.cells = wTo s.disk.cells.length (fun k => (s.disk.cells.getD k ByteArray.empty).size) s.disk.cells.length := rfl
  have e3 : wW s.disk.waits = wTo s.disk.waits.length (fun k => (s.disk.waits.getD k wt0).text.size) s.disk.waits.length := rfl
  have e2 : wS s.pages = wTo s.pages.length (fun k => (s.pages.getD k ByteArray.empty).size) s.pages.length := rfl
  rw [← e1] at hb1
  rw [← e3] at hb3
  rw [← e2] at hb2
  have ha0 : 0 ≤ wS s.disk.cells + wW s.disk.waits := by omega
  generalize wS s.disk.cells + wW s.disk.waits = a at hcs ha0 ⊢
  generalize wS s.pages = b at hws hb2 ⊢
  by_cases ha : a ≤ left
  · rw [show sub left a = left - a by unfold sub; rw [if_pos ha]] at hcs
    have hws' := hws (left - a) ⟨by omega, by omega⟩
    refine Ok.walk Tryz.func12 rfl ?_; simp only [startSt, show Tryz.f12.ntmps = 18 from rfl, List.length_cons, List.length_nil, Nat.reduceAdd, Nat.reduceSub, List.replicate, List.cons_append, List.nil_append]
    repeat' first | (with_reducible first | refine W.seq ?_ | refine W.region ?_ | refine W_ret ?_ | refine W_skip ?_ | refine Seq.normal ?_ | refine Seq.ret ?_ | refine aops_nil ?_) | ((with_reducible apply aops_callF); (case hg => exact rfl); (case ho => exact rfl); (case hc => exact rfl); (case hf => exact rfl); (case hok => first | exact hcs | exact hws'); (case hcal => first | assumption | kernel_rfl); (case hcl => (with_reducible simp only [List.map_cons, List.map_nil, List.forall_mem_cons, St.eval, List.getD_cons_zero, List.getD_cons_succ]); (repeat' with_reducible first | exact Cln.b _ | exact cln_strs | exact cln_wts | exact cln_nil | refine And.intro ?_ ?_ | refine Cln.agg ?_ | rw [List.forall_mem_cons])); (case' h => dsimp only [put, List.set])) | ((with_reducible refine aops_run ?_ (fun K' hK' => ?_)); exact rfl) | ((with_reducible refine hK' _ _ ?_); clear hK'; dsimp only [put, List.set]) | ((with_reducible apply W_cond); (case hc => exact rfl); (case' h2 => (intro hc; replace hc := of_decide_eq_false hc)); (case' h1 => (intro hc; replace hc := of_decide_eq_true hc)); all_goals try (exfalso; first | omega | exact hc rfl | exact hc trivial | exact Bool.noConfusion hc)) | ((with_reducible first | refine Ends.ret ?_ | refine Ends.normal ?_); simp only [aRes, show Tryz.f12.results.toList = [.tmp 4] from rfl, aRess, aResV, oneOf, List.getD_cons_zero, List.getD_cons_succ]) | (simp only [aop, St.eval, List.getD_cons_zero, List.getD_cons_succ, aBin, binI, aLoad, loadPV_one, loadPV_agg, aField, cellsOf, upd, Nat.mul_one, List.length_cons, List.length_nil, List.drop_zero, List.drop_succ_cons, List.take_succ_cons, List.take_zero, if_true, true_and, Nat.reduceAdd, Nat.reduceMul, Nat.reduceLT, Nat.reduceLeDiff, Nat.zero_add, Nat.add_zero, fo27_0, fo27_4, ti22, ti25]; (all_goals fail_if_success show False))
    · unfold sub at hc
      exact Out.flat' (congrArg (Value.int .i64) (by unfold sub; rw [if_neg]; split at hc <;> omega))
    · unfold sub at hc ⊢
      split at hc
      · exact Out.flat' (congrArg (Value.int .i64) (by rw [if_pos (by omega), if_pos (by omega)]; omega))
      · omega
  · rw [show sub left a = -1 by unfold sub; rw [if_neg ha]] at hcs
    refine Ok.walk Tryz.func12 rfl ?_; simp only [startSt, show Tryz.f12.ntmps = 18 from rfl, List.length_cons, List.length_nil, Nat.reduceAdd, Nat.reduceSub, List.replicate, List.cons_append, List.nil_append]
    repeat' first | (with_reducible first | refine W.seq ?_ | refine W.region ?_ | refine W_ret ?_ | refine Seq.normal ?_ | refine Seq.ret ?_ | refine aops_nil ?_) | ((with_reducible apply aops_callF); (case hg => exact rfl); (case ho => exact rfl); (case hc => exact rfl); (case hf => exact rfl); (case hok => first | exact hcs); (case hcal => first | assumption | kernel_rfl); (case hcl => (with_reducible simp only [List.map_cons, List.map_nil, List.forall_mem_cons, St.eval, List.getD_cons_zero, List.getD_cons_succ]); (repeat' with_reducible first | exact Cln.b _ | exact cln_strs | exact cln_wts | exact cln_nil | refine And.intro ?_ ?_ | refine Cln.agg ?_ | rw [List.forall_mem_cons])); (case' h => dsimp only [put, List.set])) | ((with_reducible refine aops_run ?_ (fun K' hK' => ?_)); exact rfl) | ((with_reducible refine hK' _ _ ?_); clear hK'; dsimp only [put, List.set]) | ((with_reducible apply W_cond); (case hc => exact rfl); (case' h2 => (intro hc; replace hc := of_decide_eq_false hc)); (case' h1 => (intro hc; replace hc := of_decide_eq_true hc)); all_goals try (exfalso; first | omega | exact hc rfl | exact hc trivial | exact Bool.noConfusion hc)) | ((with_reducible first | refine Ends.ret ?_ | refine Ends.normal ?_); simp only [aRes, show Tryz.f12.results.toList = [.tmp 4] from rfl, aRess, aResV, oneOf, List.getD_cons_zero, List.getD_cons_succ]) | (simp only [aop, St.eval, List.getD_cons_zero, List.getD_cons_succ, aBin, binI, aLoad, loadPV_agg, aField, cellsOf, upd, Nat.mul_one, List.length_cons, List.length_nil, List.drop_zero, List.take_succ_cons, List.take_zero, if_true, true_and, Nat.reduceAdd, Nat.reduceMul, Nat.reduceLT, Nat.reduceLeDiff, Nat.zero_add, Nat.add_zero, fo27_0, ti25]; (all_goals fail_if_success show False))
    exact Out.flat' (congrArg (Value.int .i64) (by unfold sub; rw [if_neg (by omega)]))
end Go.Proofs.YtknciobaifdafaaGreatDoor.T
