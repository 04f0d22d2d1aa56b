/- Walks of the store's functions, part 16: what the program asks of slices, and of a disk. -/
import Derived.Test.YtknciobaifdafaaGreatDoorQD
import Derived.Test.YtknciobaifdafaaGreatDoorQS1
import Derived.Test.YtknciobaifdafaaGreatDoorQT4
set_option linter.unusedVariables false
set_option maxRecDepth 100000
set_option maxHeartbeats 1000000
set_option linter.unusedSimpArgs false
namespace Go.Proofs.YtknciobaifdafaaGreatDoor.T
open Go Go.Pv Go.Proofs.YtknciobaifdafaaGreatDoor.EF
def fiOf {α : Type} (p : α → Bool) (l : List α) : Int := if l.any p = true then (l.findIdx p : Int) else -1
theorem fiOf_hit {α : Type} {p : α → Bool} {l : List α} {d : α} {i : Nat} (hi : i < l.length) (h : p (l.getD i d) = true) (hb : ∀ k, k < i → p (l.getD k d) = false) : fiOf p l = i := by
  unfold fiOf
  rw [if_pos (List.any_eq_true.2 ⟨_, mem_getD hi, h⟩)]
  congr 1
  rw [List.findIdx_eq hi]
  refine ⟨?_, fun j hj => ?_⟩
  · rwa [List.getD_eq_getElem?_getD, List.getElem?_eq_getElem hi] at h
  · have := hb j hj
    rwa [List.getD_eq_getElem?_getD, List.getElem?_eq_getElem (by omega)] at this
theorem fiOf_miss {α : Type} {p : α → Bool} {l : List α} {d : α} (hb : ∀ k, k < l.length → p (l.getD k d) = false) : fiOf p l = -1 := by
  unfold fiOf
  rw [if_neg]
  intro h
  obtain ⟨x, hx, h⟩ := List.any_eq_true.1 h
  obtain ⟨k, hk, rfl⟩ := List.getElem_of_mem hx
  have := hb k hk
  rw [List.getD_eq_getElem?_getD, List.getElem?_eq_getElem hk] at this
  rw [show (some l[k]).getD d = l[k] from rfl, h] at this
  cases this
theorem fiOf_any {α : Type} (p : α → Bool) (l : List α) : decide (0 ≤ fiOf p l) = l.any p := by
  unfold fiOf
  split
  · rename_i h; rw [h]; exact decide_eq_true (by omega)
  · rename_i h; rw [Bool.not_eq_true] at h; rw [h]; rfl
theorem indexS_ok {f : FuncId} (hcal : callable Tryz.prog f = true) (p : ByteArray → Bool) (hp : ∀ s, Ok Tryz.prog f [vS s] (vB (p s)) []) (l : List ByteArray) (hl : l.length ≤ 2000000) : Ok Tryz.prog 121 [.val l.length (l.map vS), .b (.func (.func f) #[] #[])] (vI (fiOf p l)) [] := by
  refine Ok.walk Tryz.func121 rfl ?_; simp only [startSt, show Tryz.f121.ntmps = 19 from rfl, List.length_cons, List.length_nil, Nat.reduceAdd, Nat.reduceSub, List.replicate, List.cons_append, List.nil_append]
  repeat' first | (with_reducible first | refine W.seq ?_ | refine W.region ?_ | refine W.block ?_ | refine Seq.normal ?_ | refine aops_nil ?_) | ((with_reducible refine aops_run ?_ (fun K' hK' => ?_)); exact rfl) | ((with_reducible refine hK' _ _ ?_); clear hK'; dsimp only [put, List.set]) | (simp only [aop, Option.isSome_some, St.eval, List.getD_cons_zero, List.getD_cons_succ, aLen, aBuiltin, List.map_cons, List.map_nil, true_and, se22]; (all_goals fail_if_success show False))
  refine W.loop (fun i : Nat => ⟨[.val l.length (l.map vS), .b (.func (.func f) #[] #[]), .any, .any, .any, .any, .any, vI l.length, vI i, .any, .any, .any, .any, .any, .any, .any, .any, .any, .any], noMem⟩) (fun i => i ≤ l.length ∧ ∀ k, k < i → p (l.getD k ByteArray.empty) = false) (fun i => l.length - i) 0 ?wk0 ⟨Nat.zero_le _, fun k hk => absurd hk (Nat.not_lt_zero _)⟩ (fun i hi => ?_)
  case wk0 => exact Weak.flat rfl (by simp [All2, vw, vwA, vwC, clean_b, clean_strs])
  obtain ⟨hi, hb⟩ := hi
  repeat' first | (with_reducible first | refine W.seq ?_ | refine W.region ?_ | refine W_ret ?_ | refine W_skip ?_ | refine W_exit ?_ | refine W.block ?_ | refine Seq.normal ?_ | refine Seq.ret ?_ | refine Seq.exit ?_ | refine Blk.normal ?_ | refine Blk.same ?_ | refine Blk.ret ?_ | refine Rnd.exit ?_ | refine Rnd.ret ?_ | refine aops_nil ?_ | refine load_strs ?_ ?_) | ((with_reducible apply aops_callF); (case hg => exact rfl); (case ho => exact rfl); (case hc => exact rfl); (case hf => exact rfl); (case hok => first | exact hp _); (case hcal => first | assumption | kernel_rfl); (case hcl => (with_reducible simp only [List.map_cons, List.map_nil, List.forall_mem_cons, St.eval, List.getD_cons_zero, List.getD_cons_succ]); (repeat' with_reducible first | exact Cln.b _ | exact cln_strs | exact cln_wts | exact cln_nil | refine And.intro ?_ ?_ | refine Cln.agg ?_ | rw [List.forall_mem_cons])); (case' h => dsimp only [put, List.set])) | ((with_reducible refine aops_run ?_ (fun K' hK' => ?_)); exact rfl) | ((with_reducible refine hK' _ _ ?_); clear hK'; dsimp only [put, List.set]) | ((with_reducible apply W_cond); (case hc => exact rfl); (case' h2 => (intro hc; replace hc := of_decide_eq_false hc)); (case' h1 => (intro hc; replace hc := of_decide_eq_true hc)); all_goals try (exfalso; first | omega | exact hc rfl | exact hc trivial | exact Bool.noConfusion hc)) | ((with_reducible apply W_cond); (case hc => exact rfl); all_goals intro hc; all_goals try (exfalso; first | omega | exact hc rfl | exact hc trivial | exact Bool.noConfusion hc)) | (with_reducible first | refine And.intro ?_ ?_) | ((with_reducible first | show (_ : Int) < _ | show (_ : Int) ≤ _ | show (_ : Int) ≠ _ | show (_ : Nat) < _ | show (_ : Nat) ≤ _ | show (_ : Nat) ≠ _); omega) | ((with_reducible first | refine Ends.ret ?_ | refine Ends.normal ?_); simp only [aRes, show Tryz.f121.results.toList = [.tmp 4] from rfl, aRess, aResV, oneOf, List.getD_cons_zero, List.getD_cons_succ]) | (simp only [aop, St.eval, List.getD_cons_zero, List.getD_cons_succ, aBin, binI, aLoad, aIndex, Int.toNat_natCast, Nat.mul_one, true_and, se22, ti9]; (all_goals fail_if_success show False))
  · exact Out.flat' (congrArg (Value.int .i64) (fiOf_hit (d := ByteArray.empty) (by omega) hc hb).symm)
  · refine Rnd.normal (i + 1) ⟨by omega, fun k hk => ?_⟩ (by omega) ?_
    · by_cases e : k = i
      · rw [e]; exact hc
      · exact hb k (by omega)
    · rw [wrap_id (x := (i : Int) + 1) (by omega) (by omega)]
      exact Weak.flat rfl (by simp [All2, vw, vwA, vwC, clean_b, clean_strs])
  · exact Out.flat' (congrArg (Value.int .i64) (fiOf_miss (d := ByteArray.empty) (fun k hk => hb k (by omega))).symm)
theorem containsS_ok {f : FuncId} (hcal : callable Tryz.prog f = true) (p : ByteArray → Bool) (hp : ∀ s, Ok Tryz.prog f [vS s] (vB (p s)) []) (l : List ByteArray) (hl : l.length ≤ 2000000) : Ok Tryz.prog 78 [.val l.length (l.map vS), .b (.func (.func f) #[] #[])] (vB (l.any p)) [] := by
  have hx := indexS_ok hcal p hp l hl
  refine Ok.walk Tryz.func78 rfl ?_; simp only [startSt, show Tryz.f78.ntmps = 9 from rfl, List.length_cons, List.length_nil, Nat.reduceAdd, Nat.reduceSub, List.replicate, List.cons_append, List.nil_append]
  repeat' first | (with_reducible first | refine W.seq ?_ | refine W.region ?_ | refine W_ret ?_ | refine Seq.normal ?_ | refine aops_nil ?_) | ((with_reducible apply aops_callF); (case hg => exact rfl); (case ho => exact rfl); (case hc => exact rfl); (case hf => exact rfl); (case hok => first | exact hx); (case hcal => first | assumption | kernel_rfl); (case hcl => (with_reducible simp only [List.map_cons, List.map_nil, List.forall_mem_cons, St.eval, List.getD_cons_zero, List.getD_cons_succ]); (repeat' with_reducible first | exact Cln.b _ | exact cln_strs | exact cln_wts | exact cln_nil | refine And.intro ?_ ?_ | refine Cln.agg ?_ | rw [List.forall_mem_cons])); (case' h => dsimp only [put, List.set])) | ((with_reducible refine aops_run ?_ (fun K' hK' => ?_)); exact rfl) | ((with_reducible refine hK' _ _ ?_); clear hK'; dsimp only [put, List.set]) | ((with_reducible first | refine Ends.ret ?_ | refine Ends.normal ?_); simp only [aRes, show Tryz.f78.results.toList = [.tmp 4] from rfl, aRess, aResV, oneOf, List.getD_cons_zero, List.getD_cons_succ]) | (simp only [aop, St.eval, List.getD_cons_zero, List.getD_cons_succ, aBin, binI, true_and]; (all_goals fail_if_success show False))
  exact Out.flat' (congrArg Value.bool (fiOf_any p l))
theorem indexW_ok {f : FuncId} (hcal : callable Tryz.prog f = true) (p : Wt → Bool) (hp : ∀ s, Ok Tryz.prog f [vWt s] (vB (p s)) []) (l : List Wt) (hl : l.length ≤ 2000000) : Ok Tryz.prog 150 [.val l.length (l.flatMap cWt), .b (.func (.func f) #[] #[])] (vI (fiOf p l)) [] := by
  refine Ok.walk Tryz.func150 rfl ?_; simp only [startSt, show Tryz.f150.ntmps = 19 from rfl, List.length_cons, List.length_nil, Nat.reduceAdd, Nat.reduceSub, List.replicate, List.cons_append, List.nil_append]
  repeat' first | (with_reducible first | refine W.seq ?_ | refine W.region ?_ | refine W.block ?_ | refine Seq.normal ?_ | refine aops_nil ?_) | ((with_reducible refine aops_run ?_ (fun K' hK' => ?_)); exact rfl) | ((with_reducible refine hK' _ _ ?_); clear hK'; dsimp only [put, List.set]) | (simp only [aop, Option.isSome_some, St.eval, List.getD_cons_zero, List.getD_cons_succ, aLen, aBuiltin, List.map_cons, List.map_nil, true_and, se31]; (all_goals fail_if_success show False))
  refine W.loop (fun i : Nat => ⟨[.val l.length (l.flatMap cWt), .b (.func (.func f) #[] #[]), .any, .any, .any, .any, .any, vI l.length, vI i, .any, .any, .any, .any, .any, .any, .any, .any, .any, .any], noMem⟩) (fun i => i ≤ l.length ∧ ∀ k, k < i → p (l.getD k wt0) = false) (fun i => l.length - i) 0 ?wk0 ⟨Nat.zero_le _, fun k hk => absurd hk (Nat.not_lt_zero _)⟩ (fun i hi => ?_)
  case wk0 => exact Weak.flat rfl (by simp [All2, vw, vwA, vwC, clean_b, clean_wts])
  obtain ⟨hi, hb⟩ := hi
  by_cases hil : i < l.length
  · have hd := drop_wts hil
    have hpi : Ok Tryz.prog f [.agg [vI (l.getD i wt0).cell, vS (l.getD i wt0).text]] (vB (p (l.getD i wt0))) [] := hp (l.getD i wt0)
    repeat' first | (with_reducible first | refine W.seq ?_ | refine W.region ?_ | refine W_ret ?_ | refine W_skip ?_ | refine W.block ?_ | refine Seq.normal ?_ | refine Seq.ret ?_ | refine Blk.normal ?_ | refine Blk.ret ?_ | refine Rnd.ret ?_ | refine aops_nil ?_) | ((with_reducible apply aops_callF); (case hg => exact rfl); (case ho => exact rfl); (case hc => exact rfl); (case hf => exact rfl); (case hok => first | exact hpi); (case hcal => first | assumption | kernel_rfl); (case hcl => (with_reducible simp only [List.map_cons, List.map_nil, List.forall_mem_cons, St.eval, List.getD_cons_zero, List.getD_cons_succ]); (repeat' with_reducible first | exact Cln.b _ | exact cln_strs | exact cln_wts | exact cln_nil | refine And.intro ?_ ?_ | refine Cln.agg ?_ | rw [List.forall_mem_cons])); (case' h => dsimp only [put, List.set])) | ((with_reducible refine aops_run ?_ (fun K' hK' => ?_)); exact rfl) | ((with_reducible refine hK' _ _ ?_); clear hK'; dsimp only [put, List.set]) | ((with_reducible apply W_cond); (case hc => exact rfl); (case' h2 => (intro hc; replace hc := of_decide_eq_false hc)); (case' h1 => (intro hc; replace hc := of_decide_eq_true hc)); all_goals try (exfalso; first | omega | exact hc rfl | exact hc trivial | exact Bool.noConfusion hc)) | ((with_reducible apply W_cond); (case hc => exact rfl); all_goals intro hc; all_goals try (exfalso; first | omega | exact hc rfl | exact hc trivial | exact Bool.noConfusion hc)) | (with_reducible first | refine And.intro ?_ ?_) | ((with_reducible first | show (_ : Int) < _ | show (_ : Int) ≤ _ | show (_ : Int) ≠ _ | show (_ : Nat) < _ | show (_ : Nat) ≤ _ | show (_ : Nat) ≠ _); omega) | ((with_reducible first | refine Ends.ret ?_ | refine Ends.normal ?_); simp only [aRes, show Tryz.f150.results.toList = [.tmp 4] from rfl, aRess, aResV, oneOf, List.getD_cons_zero, List.getD_cons_succ]) | (simp only [aop, St.eval, List.getD_cons_zero, List.getD_cons_succ, aBin, binI, aLoad, loadPV_agg, aIndex, Int.toNat_natCast, List.length_cons, List.take_succ_cons, List.take_zero, true_and, Nat.reduceLeDiff, hd, List.take_succ_cons, List.take_zero, List.length_cons, se31, ti110]; (all_goals fail_if_success show False))
    · exact Out.flat' (congrArg (Value.int .i64) (fiOf_hit (d := wt0) (by omega) hc hb).symm)
    · refine Rnd.normal (i + 1) ⟨by omega, fun k hk => ?_⟩ (by omega) ?_
      · by_cases e : k = i
        · rw [e]; exact hc
        · exact hb k (by omega)
      · rw [wrap_id (x := (i : Int) + 1) (by omega) (by omega)]
        exact Weak.flat rfl (by simp [All2, vw, vwA, vwC, clean_b, clean_wts])
  · repeat' first | (with_reducible first | refine W.seq ?_ | refine W.region ?_ | refine W_ret ?_ | refine W_exit ?_ | refine Seq.normal ?_ | refine Seq.exit ?_ | refine Blk.same ?_ | refine Rnd.exit ?_ | refine aops_nil ?_) | ((with_reducible refine aops_run ?_ (fun K' hK' => ?_)); exact rfl) | ((with_reducible refine hK' _ _ ?_); clear hK'; dsimp only [put, List.set]) | ((with_reducible apply W_cond); (case hc => exact rfl); (case' h2 => (intro hc; replace hc := of_decide_eq_false hc)); (case' h1 => (intro hc; replace hc := of_decide_eq_true hc)); all_goals try (exfalso; first | omega | exact hc rfl | exact hc trivial | exact Bool.noConfusion hc)) | ((with_reducible first | refine Ends.ret ?_ | refine Ends.normal ?_); simp only [aRes, show Tryz.f150.results.toList = [.tmp 4] from rfl, aRess, aResV, oneOf, List.getD_cons_zero, List.getD_cons_succ]) | (simp only [aop, St.eval, List.getD_cons_zero, List.getD_cons_succ, aBin, binI, true_and]; (all_goals fail_if_success show False))
    exact Out.flat' (congrArg (Value.int .i64) (fiOf_miss (d := wt0) (fun k hk => hb k (by omega))).symm)
theorem containsW_ok {f : FuncId} (hcal : callable Tryz.prog f = true) (p : Wt → Bool) (hp : ∀ s, Ok Tryz.prog f [vWt s] (vB (p s)) []) (l : List Wt) (hl : l.length ≤ 2000000) : Ok Tryz.prog 110 [.val l.length (l.flatMap cWt), .b (.func (.func f) #[] #[])] (vB (l.any p)) [] := by
  have hx := indexW_ok hcal p hp l hl
  refine Ok.walk Tryz.func110 rfl ?_; simp only [startSt, show Tryz.f110.ntmps = 9 from rfl, List.length_cons, List.length_nil, Nat.reduceAdd, Nat.reduceSub, List.replicate, List.cons_append, List.nil_append]
  repeat' first | (with_reducible first | refine W.seq ?_ | refine W.region ?_ | refine W_ret ?_ | refine Seq.normal ?_ | refine aops_nil ?_) | ((with_reducible apply aops_callF); (case hg => exact rfl); (case ho => exact rfl); (case hc => exact rfl); (case hf => exact rfl); (case hok => first | exact hx); (case hcal => first | assumption | kernel_rfl); (case hcl => (with_reducible simp only [List.map_cons, List.map_nil, List.forall_mem_cons, St.eval, List.getD_cons_zero, List.getD_cons_succ]); (repeat' with_reducible first | exact Cln.b _ | exact cln_strs | exact cln_wts | exact cln_nil | refine And.intro ?_ ?_ | refine Cln.agg ?_ | rw [List.forall_mem_cons])); (case' h => dsimp only [put, List.set])) | ((with_reducible refine aops_run ?_ (fun K' hK' => ?_)); exact rfl) | ((with_reducible refine hK' _ _ ?_); clear hK'; dsimp only [put, List.set]) | ((with_reducible first | refine Ends.ret ?_ | refine Ends.normal ?_); simp only [aRes, show Tryz.f110.results.toList = [.tmp 4] from rfl, aRess, aResV, oneOf, List.getD_cons_zero, List.getD_cons_succ]) | (simp only [aop, St.eval, List.getD_cons_zero, List.getD_cons_succ, aBin, binI, true_and]; (all_goals fail_if_success show False))
  exact Out.flat' (congrArg Value.bool (fiOf_any p l))
theorem DiskOk_ok (d : Dk) (h1 : d.cells.length ≤ 2000000) (h2 : d.waits.length ≤ 2000000) : Ok Tryz.prog 72 [vDk d] (vB (dkOk d)) [] := by
  have hcs := containsS_ok (f := 109) (by kernel_rfl) (fun s => decide (1200 < s.size)) wide_ok d.cells h1
  have hcw := containsW_ok (f := 111) (by kernel_rfl) (fun x => !wtOk x) badWait_ok d.waits h2
  have e : dkOk d = (decide (d.cells.length = 42 ∧ d.waits.length ≤ 100 ∧ -1 ≤ d.room ∧ -1 ≤ d.left) && !(d.cells.any fun s => decide (1200 < s.size)) && !(d.waits.any fun x => !wtOk x)) := by
    unfold dkOk
    rw [List.not_any_eq_all_not, List.not_any_eq_all_not]
    congr 2
    · congr 1
      funext s
      rw [← decide_not]
      congr 1
      exact propext (by omega)
    · congr 1
      funext x
      simp
  rw [e]
  generalize d.cells.any (fun s => decide (1200 < s.size)) = B1 at hcs ⊢
  generalize d.waits.any (fun x => !wtOk x) = B2 at hcw ⊢
  refine Ok.walk Tryz.func72 rfl ?_; simp only [startSt, show Tryz.f72.ntmps = 35 from rfl, List.length_cons, List.length_nil, Nat.reduceAdd, Nat.reduceSub, List.replicate, List.cons_append, List.nil_append]
  repeat' first | (with_reducible first | refine W.seq ?_ | refine W.region ?_ | refine W_ret ?_ | refine Seq.normal ?_ | refine aops_nil ?_) | ((with_reducible apply aops_callF); (case hg => exact rfl); (case ho => exact rfl); (case hc => exact rfl); (case hf => exact rfl); (case hok => first | exact hcs | exact hcw); (case hcal => first | assumption | kernel_rfl); (case hcl => (with_reducible simp only [List.map_cons, List.map_nil, List.forall_mem_cons, St.eval, List.getD_cons_zero, List.getD_cons_succ]); (repeat' with_reducible first | exact Cln.b _ | exact cln_strs | exact cln_wts | exact cln_nil | refine And.intro ?_ ?_ | refine Cln.agg ?_ | rw [List.forall_mem_cons])); (case' h => dsimp only [put, List.set])) | ((with_reducible refine aops_run ?_ (fun K' hK' => ?_)); exact rfl) | ((with_reducible refine aops_skip ?_ ?_); exact rfl; dsimp only [put, List.set]) | ((with_reducible apply aops_cons_if); (case hg => exact rfl); (case' h1 => (intro hg; (first | replace hg := beqT hg | replace hg := beqTf hg | replace hg := beqF hg | replace hg := beqFf hg); rw [hg]; (first | replace hg := of_decide_eq_true hg | replace hg := of_decide_eq_false hg | replace hg := ndT hg | replace hg := ndF hg | replace hg := nbT hg | replace hg := nbF hg | skip); (try (exfalso; omega)); all_goals (intro K' hK'))); (case' h2 => (intro hg; (first | replace hg := beqT hg | replace hg := beqTf hg | replace hg := beqF hg | replace hg := beqFf hg); rw [hg]; dsimp only [put, List.set]; (first | replace hg := of_decide_eq_true hg | replace hg := of_decide_eq_false hg | replace hg := ndT hg | replace hg := ndF hg | replace hg := nbT hg | replace hg := nbF hg | skip); (try (exfalso; omega))))) | ((with_reducible refine hK' _ _ ?_); clear hK'; dsimp only [put, List.set]) | ((with_reducible first | refine Ends.ret ?_ | refine Ends.normal ?_); simp only [aRes, show Tryz.f72.results.toList = [.tmp 2] from rfl, aRess, aResV, oneOf, List.getD_cons_zero, List.getD_cons_succ]) | (simp only [aop, Option.isSome_some, Bool.and_true, St.eval, List.getD_cons_zero, List.getD_cons_succ, aBin, binI, aUn, aLoad, loadPV_one, aField, aLen, aBuiltin, cellsOf, upd, Nat.mul_one, List.map_cons, List.map_nil, List.length_cons, List.length_nil, List.drop_zero, List.drop_succ_cons, if_true, if_false, Bool.false_eq_true, true_and, Nat.reduceAdd, Nat.reduceMul, Nat.reduceLT, Nat.zero_add, Nat.add_zero, fo33_0, fo33_1, fo33_2, fo33_3, se22, se31, ti22, ti3, ti31]; (all_goals fail_if_success show False))
  all_goals refine Out.flat' (congrArg Value.bool ?_)
  all_goals first
    | (simp; done)
    | (rw [Bool.eq_iff_iff]; simp; omega)
    | (rw [Bool.eq_iff_iff]; simp_all; done)
    | (rw [Bool.eq_iff_iff]; simp_all; omega)
end Go.Proofs.YtknciobaifdafaaGreatDoor.T
