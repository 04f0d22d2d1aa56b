/- Walks of the laws' helpers, part 6: what still stands where marks were written. -/
import Derived.Test.YtknciobaifdafaaGreatDoorQM2
import Derived.Test.YtknciobaifdafaaGreatDoorQV3
set_option linter.unusedVariables false
set_option maxRecDepth 100000
set_option maxHeartbeats 4000000
set_option linter.unusedSimpArgs false
namespace Go.Proofs.YtknciobaifdafaaGreatDoor.T
open Go Go.Pv Go.Proofs.YtknciobaifdafaaGreatDoor.EF
theorem heldS_marks (k : Int) (n : Nat) : heldS (marksS k n) k = k + n := by
  unfold heldS
  rw [if_neg, marksS_length]
  rw [marksS_length]
  have : ∀ m, m ≤ n → anyTo (fun j => decide ((marksS k n).getD j ByteArray.empty ≠ markB (k + j))) m = false := by
    intro m
    induction m with
    | zero => intro _; rfl
    | succ m ih =>
      intro h
      unfold anyTo
      rw [ih (by omega), Bool.false_or, decide_eq_false_iff_not]
      intro h2
      refine h2 ?_
      simp [marksS, show m < n by omega]
  rw [this n (Nat.le_refl _)]
  decide
theorem heldM_ok (k : Int) (n : Nat) (h0 : 0 ≤ k ∧ k ≤ 1000000000000) (hl : n ≤ 2000000) : Ok Tryz.prog 63 [.val n ((marksS k n).map vS), vI k] (vI (k + n)) [] := by
  have := heldS_ok (marksS k n) k h0 (by rw [marksS_length]; exact hl)
  rwa [heldS_marks, marksS_length] at this
theorem getW_marks {k : Int} {n i : Nat} (h : i < n) : (marksW k n).getD i wt0 = ⟨k + 2 * i, markB (k + 2 * i + 1)⟩ := by simp [marksW, h]
theorem heldMW_ok (k : Int) (n : Nat) (h0 : 0 ≤ k ∧ k ≤ 1000000000000) (hl : n ≤ 2000000) : Ok Tryz.prog 105 [.val n ((marksW k n).flatMap cWt), vI k] (vI (k + 2 * n)) [] := by
  have hlen := marksW_length k n
  have hgw : ∀ i, i < n → (marksW k n).getD i wt0 = ⟨k + 2 * i, markB (k + 2 * i + 1)⟩ := fun i h => getW_marks h
  generalize marksW k n = l at hlen hgw
  subst hlen
  obtain ⟨M, hM⟩ : ∃ M : Int → ByteArray, M = markB := ⟨_, rfl⟩
  have hm : ∀ z : Int, z ≤ 9223372036854775807 → Ok Tryz.prog 61 [vI z] (vS (M z)) [] := fun z hz => hM ▸ markText_ok z hz
  rw [← hM] at hgw
  refine Ok.walk Tryz.func105 rfl ?_; simp only [startSt, show Tryz.f105.ntmps = 32 from rfl, List.length_cons, List.length_nil, Nat.reduceAdd, Nat.reduceSub, List.replicate, List.cons_append, List.nil_append]
  repeat' first | (with_reducible first | refine W.seq ?_ | refine W.region ?_ | refine W.block ?_ | refine Seq.normal ?_ | refine aops_nil ?_) | ((with_reducible refine aops_run ?_ (fun K' hK' => ?_)); exact rfl) | ((with_reducible refine hK' _ _ ?_); clear hK'; dsimp only [put, List.set]) | (simp only [aop, St.eval]; (all_goals fail_if_success show False))
  refine W.loop (fun i : Nat => ⟨[.val l.length (l.flatMap cWt), vI (k + 2 * i), .any, .any, .any, vI i, .any, .any, .any, .any, .any, .any, .any, .any, .any, .any, .any, .any, .any, .any, .any, .any, .any, .any, .any, .any, .any, .any, .any, .any, .any, .any], noMem⟩) (fun i => i ≤ l.length) (fun i => l.length - i) 0 ?wk0 (Nat.zero_le _) (fun i hi => ?_)
  case wk0 => exact Weak.flat rfl (by simp [All2, vw, vwA, vwC, clean_b, clean_wts])
  by_cases hlt : i < l.length
  · have e := hgw i hlt
    have hd := drop_wts hlt
    rw [e] at hd
    repeat' first | (with_reducible first | refine W.seq ?_ | refine W.region ?_ | refine W_ret ?_ | refine W_skip ?_ | refine W.block ?_ | refine Seq.normal ?_ | refine Seq.ret ?_ | refine Blk.normal ?_ | refine Blk.ret ?_ | refine Rnd.ret ?_ | refine aops_nil ?_ | refine aheadU_nil ?_) | ((with_reducible apply ahead_callF); (case hg => exact rfl); (case ho => exact rfl); (case hc => exact rfl); (case hf => exact rfl); (case hok => first | exact hm _ (by simp only [IntKind.wrap_i64]; omega)); (case hcal => first | assumption | kernel_rfl); (case hcl => (with_reducible simp only [List.map_cons, List.map_nil, List.forall_mem_cons, St.eval, List.getD_cons_zero, List.getD_cons_succ]); (repeat' with_reducible first | exact Cln.b _ | exact cln_strs | exact cln_wts | exact cln_nil | refine And.intro ?_ ?_ | refine Cln.agg ?_ | rw [List.forall_mem_cons])); (case' h => dsimp only [putL, List.set])) | ((with_reducible refine aops_run ?_ (fun K' hK' => ?_)); exact rfl) | ((with_reducible refine aheadU_run ?_ ?_ ?_ (fun K' hA' => ?_)); exact rfl; exact rfl; exact rfl) | ((with_reducible refine hA'.1 _ ?_); clear hA'; dsimp only [putL, List.set]) | ((with_reducible refine W.drawU (id := 7) (n := 8) mixed ?_ ?_ ?_ ?_); kernel_rfl; (simp only [List.length_cons, List.length_nil]; omega); (intro k h1 h2; first | rfl | ((try simp only [rowsAt, impRows, List.map_nil]); (repeat rw [upd_ne _ _ (by omega)]) <;> rfl) | (simp only [upd]; (repeat' split) <;> first | rfl | omega)); dsimp only [List.take, List.drop]) | ((with_reducible refine hK' _ _ ?_); clear hK'; dsimp only [put, List.set]) | ((with_reducible apply W_cond); (case hc => exact rfl); (case' h2 => (intro hc; replace hc := of_decide_eq_false hc)); (case' h1 => (intro hc; replace hc := of_decide_eq_true hc)); all_goals try (exfalso; first | omega | exact hc rfl | exact hc trivial | exact Bool.noConfusion hc)) | ((with_reducible apply W_cond); (case hc => exact rfl); (case' h2 => (intro hc; replace hc := ndF hc)); (case' h1 => (intro hc; replace hc := ndT hc)); all_goals try (exfalso; first | omega | exact hc rfl | exact hc trivial | exact Bool.noConfusion hc)) | (with_reducible first | refine And.intro ?_ ?_) | ((with_reducible first | show (_ : Int) < _ | show (_ : Int) ≤ _ | show (_ : Int) ≠ _ | show (_ : Nat) < _ | show (_ : Nat) ≤ _ | show (_ : Nat) ≠ _); omega) | ((with_reducible first | refine Ends.ret ?_ | refine Ends.normal ?_); simp only [aRes, show Tryz.f105.results.toList = [.tmp 4] from rfl, aRess, aResV, oneOf, List.getD_cons_zero, List.getD_cons_succ]) | (simp only [aop, Option.isSome_some, St.eval, List.getD_cons_zero, List.getD_cons_succ, aBin, binI, binS, aLoad, loadPV_one, aField, aIndex, aLen, aBuiltin, addU, Int.toNat_natCast, List.map_cons, List.map_nil, List.drop_zero, List.drop_succ_cons, true_and, hd, fo110_0, fo110_1, se31, ti3, ti9]; (all_goals fail_if_success show False))
    · exact absurd (by rw [wrap_id (x := k + 2 * (i : Int) + 1) (by omega) (by omega)]) hc
    · refine Rnd.normal (i + 1) (by omega) (by omega) ?_
      rw [wrap_id (x := k + 2 * (i : Int) + 1) (by omega) (by omega), wrap_id (x := (i : Int) + 1) (by omega) (by omega), wrap_id (x := k + 2 * (i : Int) + 1 + 1) (by omega) (by omega), show k + 2 * (i : Int) + 1 + 1 = k + 2 * ((i + 1 : Nat) : Int) by omega]
      exact Weak.flat rfl (by simp [All2, vw, vwA, vwC, clean_b, clean_wts])
  · repeat' first | (with_reducible first | refine W.seq ?_ | refine W.region ?_ | refine W_ret ?_ | refine W_exit ?_ | refine Seq.normal ?_ | refine Seq.exit ?_ | refine Blk.same ?_ | refine Rnd.exit ?_ | refine aops_nil ?_) | ((with_reducible refine aops_run ?_ (fun K' hK' => ?_)); exact rfl) | ((with_reducible refine hK' _ _ ?_); clear hK'; dsimp only [put, List.set]) | ((with_reducible apply W_cond); (case hc => exact rfl); (case' h2 => (intro hc; replace hc := of_decide_eq_false hc)); (case' h1 => (intro hc; replace hc := of_decide_eq_true hc)); all_goals try (exfalso; first | omega | exact hc rfl | exact hc trivial | exact Bool.noConfusion hc)) | ((with_reducible first | refine Ends.ret ?_ | refine Ends.normal ?_); simp only [aRes, show Tryz.f105.results.toList = [.tmp 4] from rfl, aRess, aResV, oneOf, List.getD_cons_zero, List.getD_cons_succ]) | (simp only [aop, Option.isSome_some, St.eval, List.getD_cons_zero, List.getD_cons_succ, aBin, binI, aLen, aBuiltin, List.map_cons, List.map_nil, true_and, se31]; (all_goals fail_if_success show False))
    obtain rfl : i = l.length := by omega
    exact Out.flat' rfl
/-- What a disk or a store looks like behind the marks from k on. -/
def mkDk (k : Int) (d : Dk) : Dk := ⟨marksS k d.cells.length, marksW (k + d.cells.length) d.waits.length, d.room, d.left⟩
def mkSt (k : Int) (s : Stor) : Stor := ⟨mkDk k s.disk, s.turn, s.tries, s.next, marksS (k + s.disk.cells.length + 2 * s.disk.waits.length) s.pages.length⟩
theorem heldDisk_ok (k : Int) (nc nw : Nat) (room left : Int) (h0 : 0 ≤ k ∧ k ≤ 1000000000) (hl1 : nc ≤ 2000000) (hl2 : nw ≤ 2000000) :
    Ok Tryz.prog 62 [.agg [.val nc ((marksS k nc).map vS), .val nw ((marksW (k + nc) nw).flatMap cWt), vI room, vI left], vI k] (vI (k + nc + 2 * nw)) [] := by
  have h1 := heldM_ok k nc (by omega) hl1
  have h2 := heldMW_ok (k + nc) nw (by omega) hl2
  generalize marksS k nc = lc at h1 ⊢
  generalize marksW (k + nc) nw = lw at h2 ⊢
  refine Ok.walk Tryz.func62 rfl ?_; simp only [startSt, show Tryz.f62.ntmps = 18 from rfl, List.length_cons, List.length_nil, Nat.reduceAdd, Nat.reduceSub, List.replicate, List.cons_append, List.nil_append]
  repeat' first | (with_reducible first | refine W.seq ?_ | refine W.region ?_ | refine W_ret ?_ | refine W_skip ?_ | refine Seq.normal ?_ | refine aops_nil ?_) | ((with_reducible apply aops_callF); (case hg => exact rfl); (case ho => exact rfl); (case hc => exact rfl); (case hf => exact rfl); (case hok => first | exact h1 | exact h2); (case hcal => first | assumption | kernel_rfl); (case hcl => (with_reducible simp only [List.map_cons, List.map_nil, List.forall_mem_cons, St.eval, List.getD_cons_zero, List.getD_cons_succ]); (repeat' with_reducible first | exact Cln.b _ | exact cln_strs | exact cln_wts | exact cln_nil | refine And.intro ?_ ?_ | refine Cln.agg ?_ | rw [List.forall_mem_cons])); (case' h => dsimp only [put, List.set])) | ((with_reducible refine aops_run ?_ (fun K' hK' => ?_)); exact rfl) | ((with_reducible refine hK' _ _ ?_); clear hK'; dsimp only [put, List.set]) | ((with_reducible apply W_cond); (case hc => exact rfl); (case' h2 => (intro hc; replace hc := of_decide_eq_false hc)); (case' h1 => (intro hc; replace hc := of_decide_eq_true hc)); all_goals try (exfalso; first | omega | exact hc rfl | exact hc trivial | exact Bool.noConfusion hc)) | ((with_reducible first | refine Ends.ret ?_ | refine Ends.normal ?_); simp only [aRes, show Tryz.f62.results.toList = [.tmp 4] from rfl, aRess, aResV, oneOf, List.getD_cons_zero, List.getD_cons_succ]) | (simp only [aop, St.eval, List.getD_cons_zero, List.getD_cons_succ, aBin, binI, aLoad, loadPV_one, aField, cellsOf, upd, Nat.mul_one, List.length_cons, List.length_nil, List.drop_zero, List.drop_succ_cons, if_true, true_and, Nat.reduceAdd, Nat.reduceMul, Nat.reduceLT, Nat.zero_add, Nat.add_zero, fo33_0, fo33_1, ti22, ti31]; (all_goals fail_if_success show False))
  exact Out.flat' rfl
theorem heldStore_ok (k : Int) (nc nw np : Nat) (room left turn tries next : Int) (h0 : 0 ≤ k ∧ k ≤ 1000000000) (hl1 : nc ≤ 2000000) (hl2 : nw ≤ 2000000) (hl3 : np ≤ 2000000) :
    Ok Tryz.prog 22 [.agg [.val nc ((marksS k nc).map vS), .val nw ((marksW (k + nc) nw).flatMap cWt), vI room, vI left, vI turn, vI tries, vI next, .val np ((marksS (k + nc + 2 * nw) np).map vS)], vI k] (vI (k + nc + 2 * nw + np)) [] := by
  have h1 := heldDisk_ok k nc nw room left h0 hl1 hl2
  have h3 := heldM_ok (k + nc + 2 * nw) np (by omega) hl3
  generalize marksS k nc = lc at h1 ⊢
  generalize marksW (k + nc) nw = lw at h1 ⊢
  generalize marksS (k + nc + 2 * nw) np = lp at h3 ⊢
  refine Ok.walk Tryz.func22 rfl ?_; simp only [startSt, show Tryz.f22.ntmps = 18 from rfl, List.length_cons, List.length_nil, Nat.reduceAdd, Nat.reduceSub, List.replicate, List.cons_append, List.nil_append]
  repeat' first | (with_reducible first | refine W.seq ?_ | refine W.region ?_ | refine W_ret ?_ | refine W_skip ?_ | refine Seq.normal ?_ | refine aops_nil ?_) | ((with_reducible apply aops_callF); (case hg => exact rfl); (case ho => exact rfl); (case hc => exact rfl); (case hf => exact rfl); (case hok => first | exact h1 | exact h3); (case hcal => first | assumption | kernel_rfl); (case hcl => (with_reducible simp only [List.map_cons, List.map_nil, List.forall_mem_cons, St.eval, List.getD_cons_zero, List.getD_cons_succ]); (repeat' with_reducible first | exact Cln.b _ | exact cln_strs | exact cln_wts | exact cln_nil | refine And.intro ?_ ?_ | refine Cln.agg ?_ | rw [List.forall_mem_cons])); (case' h => dsimp only [put, List.set])) | ((with_reducible refine aops_run ?_ (fun K' hK' => ?_)); exact rfl) | ((with_reducible refine hK' _ _ ?_); clear hK'; dsimp only [put, List.set]) | ((with_reducible apply W_cond); (case hc => exact rfl); (case' h2 => (intro hc; replace hc := of_decide_eq_false hc)); (case' h1 => (intro hc; replace hc := of_decide_eq_true hc)); all_goals try (exfalso; first | omega | exact hc rfl | exact hc trivial | exact Bool.noConfusion hc)) | ((with_reducible first | refine Ends.ret ?_ | refine Ends.normal ?_); simp only [aRes, show Tryz.f22.results.toList = [.tmp 4] from rfl, aRess, aResV, oneOf, List.getD_cons_zero, List.getD_cons_succ]) | (simp only [aop, St.eval, List.getD_cons_zero, List.getD_cons_succ, aBin, binI, aLoad, loadPV_one, loadPV_agg, aField, cellsOf, upd, Nat.mul_one, List.length_cons, List.length_nil, List.drop_zero, List.drop_succ_cons, List.take_succ_cons, List.take_zero, if_true, true_and, Nat.reduceAdd, Nat.reduceMul, Nat.reduceLT, Nat.reduceLeDiff, Nat.zero_add, Nat.add_zero, fo35_0, fo35_4, ti22, ti33]; (all_goals fail_if_success show False))
  exact Out.flat' rfl
end Go.Proofs.YtknciobaifdafaaGreatDoor.T
