/- Walks of rows, part 3: rows that are ok, and their texts. -/
import Derived.Test.YtneapbfomhalpaaGreatDoorQYC
set_option linter.unusedVariables false
set_option maxRecDepth 100000
set_option maxHeartbeats 4000000
set_option linter.unusedSimpArgs false
namespace Go.Proofs.YtneapbfomhalpaaGreatDoor.T
open Go Go.Pv Go.Proofs.YtneapbfomhalpaaGreatDoor.EF
open Classical in
noncomputable def eqfB (p : Vl → Ty → Bool) (vs : List Vl) (ts : List Ty) : Bool := decide (vs.length = ts.length ∧ ∀ i, i < vs.length → p (vs.getD i vl0) (ts.getD i ty0) = true)
theorem eqfB_no {p : Vl → Ty → Bool} {vs : List Vl} {ts : List Ty} (h : ¬ (vs.length = ts.length ∧ ∀ i, i < vs.length → p (vs.getD i vl0) (ts.getD i ty0) = true)) : eqfB p vs ts = false := decide_eq_false h
theorem eqfB_yes {p : Vl → Ty → Bool} {vs : List Vl} {ts : List Ty} (h : vs.length = ts.length ∧ ∀ i, i < vs.length → p (vs.getD i vl0) (ts.getD i ty0) = true) : eqfB p vs ts = true := decide_eq_true h
theorem equalF_ok {f : FuncId} (hcal : callable Tryz.prog f = true) (p : Vl → Ty → Bool) (vs : List Vl) (ts : List Ty) (hp : ∀ k, Ok Tryz.prog f [vVl (vs.getD k vl0), vTy (ts.getD k ty0)] (vB (p (vs.getD k vl0) (ts.getD k ty0))) []) (hl : vs.length ≤ 2000000) (hl2 : ts.length ≤ 2000000) :
    Ok Tryz.prog 58 [vVls vs, vTys ts, .b (.func (.func f) #[] #[])] (vB (eqfB p vs ts)) [] := by
  by_cases hlen : vs.length = ts.length
  · refine Ok.walk Tryz.func58 rfl ?_; simp only [startSt, show Tryz.f58.ntmps = 32 from rfl, List.length_cons, List.length_nil, Nat.reduceAdd, Nat.reduceSub, List.replicate, List.cons_append, List.nil_append]
    repeat' first | (with_reducible first | refine W.seq ?_ | refine W.region ?_ | refine W_skip ?_ | refine W.block ?_ | refine Seq.normal ?_ | refine aops_nil ?_) | ((with_reducible refine aops_run ?_ (fun K' hK' => ?_)); exact rfl) | ((with_reducible refine hK' _ _ ?_); clear hK'; dsimp only [put, List.set]) | ((with_reducible apply W_cond); (case hc => exact rfl); (case' h2 => (intro hc; replace hc := ndF hc)); (case' h1 => (intro hc; replace hc := ndT hc)); all_goals try (exfalso; first | omega | exact hc rfl | exact hc trivial | exact Bool.noConfusion hc)) | (simp only [aop, Option.isSome_some, St.eval, List.getD_cons_zero, List.getD_cons_succ, aBin, binI, aLen, aBuiltin, List.map_cons, List.map_nil, true_and, eq_self, se47, se49]; (all_goals fail_if_success show False))
    refine W.loop (fun i : Nat => ⟨[.any, vTys ts, .b (.func (.func f) #[] #[]), .any, .any, .any, .any, .any, .any, .any, .any, .any, .any, .any, .any, vVls vs, vI vs.length, vI i, .any, .any, .any, .any, .any, .any, .any, .any, .any, .any, .any, .any, .any, .any], noMem⟩) (fun i => i ≤ vs.length ∧ ∀ k, k < i → p (vs.getD k vl0) (ts.getD k ty0) = true) (fun i => vs.length - i) 0 ?wk0 ⟨Nat.zero_le _, fun k hk => absurd hk (Nat.not_lt_zero _)⟩ (fun i hi => ?_)
    case wk0 => exact Weak.flat rfl (by simp [All2, vw, vwA, vwC, clean_b, clean_vls, clean_tys, eq_self])
    obtain ⟨hi, hb⟩ := hi
    by_cases hil : i < vs.length
    · have ht := take_vls hil
      have ht2 := take_tys (l := ts) (k := i) (by omega)
      have hq := hp i
      cases hpv : p (vs.getD i vl0) (ts.getD i ty0) with
      | false =>
        rw [hpv] at hq
        generalize vs.getD i vl0 = v at ht hq
        generalize ts.getD i ty0 = t at ht2 hq
        obtain ⟨kind, yes, ⟨ng, l, sc⟩, day, months, days, text⟩ := v
        obtain ⟨tk, td, ts'⟩ := t
        repeat' first | (with_reducible first | refine W.seq ?_ | refine W.region ?_ | refine W_ret ?_ | refine W_skip ?_ | refine W.block ?_ | refine Seq.normal ?_ | refine Seq.ret ?_ | refine Blk.ret ?_ | refine Rnd.ret ?_ | refine aops_nil ?_) | ((with_reducible apply aops_callF); (case hg => exact rfl); (case ho => exact rfl); (case hc => exact rfl); (case hf => exact rfl); (case hok => first | exact hq); (case hcal => first | assumption | kernel_rfl); (case hcl => (with_reducible simp only [List.map_cons, List.map_nil, List.forall_mem_cons, St.eval, List.getD_cons_zero, List.getD_cons_succ]); (repeat' with_reducible first | exact Cln.b _ | exact cln_strs | exact cln_wts | exact cln_vls | exact cln_tys | exact cln_vI | exact cln_nil | refine And.intro ?_ ?_ | refine Cln.agg ?_ | rw [List.forall_mem_cons])); (case' h => dsimp only [put, List.set])) | ((with_reducible refine aops_run ?_ (fun K' hK' => ?_)); exact rfl) | ((with_reducible refine hK' _ _ ?_); clear hK'; dsimp only [put, List.set]) | ((with_reducible apply W_cond); (case hc => exact rfl); (case' h2 => (intro hc; replace hc := of_decide_eq_false hc)); (case' h1 => (intro hc; replace hc := of_decide_eq_true hc)); all_goals try (exfalso; first | omega | exact hc rfl | exact hc trivial | exact Bool.noConfusion hc)) | ((with_reducible apply W_cond); (case hc => exact rfl); all_goals intro hc; all_goals try (exfalso; first | omega | exact hc rfl | exact hc trivial | exact Bool.noConfusion hc)) | (with_reducible first | refine And.intro ?_ ?_) | ((with_reducible first | show (_ : Int) < _ | show (_ : Int) ≤ _ | show (_ : Int) ≠ _ | show (_ : Nat) < _ | show (_ : Nat) ≤ _ | show (_ : Nat) ≠ _); omega) | ((with_reducible first | refine Ends.ret ?_ | refine Ends.normal ?_); simp only [aRes, show Tryz.f58.results.toList = [.tmp 6] from rfl, aRess, aResV, oneOf, List.getD_cons_zero, List.getD_cons_succ]) | (simp only [aop, Bool.and_true, St.eval, List.getD_cons_zero, List.getD_cons_succ, aBin, binI, aUn, aLoad, loadPV_agg, aStore, aIndex, cellsOf, storable, storeL, upd, Int.toNat_natCast, List.map_cons, List.map_nil, List.length_cons, List.length_nil, List.drop_zero, List.take_succ_cons, List.take_zero, List.set_cons_zero, List.set_cons_succ, List.all_cons, List.all_nil, if_true, if_false, true_and, Nat.reduceAdd, Nat.reduceMul, Nat.reduceEqDiff, Nat.reduceLT, Nat.reduceLeDiff, Value.oneCell', Nat.zero_add, len_vls, len_tys, List.length_drop, Bool.not_false, eq_self, ht, ht2, se47, se49, ti38, ti64]; (all_goals fail_if_success show False))
        exact Out.flat' (congrArg Value.bool (eqfB_no (fun e => by have := e.2 i hil; rw [hpv] at this; cases this)).symm)
      | true =>
        rw [hpv] at hq
        generalize vs.getD i vl0 = v at ht hq
        generalize ts.getD i ty0 = t at ht2 hq
        obtain ⟨kind, yes, ⟨ng, l, sc⟩, day, months, days, text⟩ := v
        obtain ⟨tk, td, ts'⟩ := t
        repeat' first | (with_reducible first | refine W.seq ?_ | refine W.region ?_ | refine W_skip ?_ | refine W.block ?_ | refine Seq.normal ?_ | refine Blk.normal ?_ | refine aops_nil ?_) | ((with_reducible apply aops_callF); (case hg => exact rfl); (case ho => exact rfl); (case hc => exact rfl); (case hf => exact rfl); (case hok => first | exact hq); (case hcal => first | assumption | kernel_rfl); (case hcl => (with_reducible simp only [List.map_cons, List.map_nil, List.forall_mem_cons, St.eval, List.getD_cons_zero, List.getD_cons_succ]); (repeat' with_reducible first | exact Cln.b _ | exact cln_strs | exact cln_wts | exact cln_vls | exact cln_tys | exact cln_vI | exact cln_nil | refine And.intro ?_ ?_ | refine Cln.agg ?_ | rw [List.forall_mem_cons])); (case' h => dsimp only [put, List.set])) | ((with_reducible refine aops_run ?_ (fun K' hK' => ?_)); exact rfl) | ((with_reducible refine hK' _ _ ?_); clear hK'; dsimp only [put, List.set]) | ((with_reducible apply W_cond); (case hc => exact rfl); (case' h2 => (intro hc; replace hc := of_decide_eq_false hc)); (case' h1 => (intro hc; replace hc := of_decide_eq_true hc)); all_goals try (exfalso; first | omega | exact hc rfl | exact hc trivial | exact Bool.noConfusion hc)) | ((with_reducible apply W_cond); (case hc => exact rfl); all_goals intro hc; all_goals try (exfalso; first | omega | exact hc rfl | exact hc trivial | exact Bool.noConfusion hc)) | (with_reducible first | refine And.intro ?_ ?_) | ((with_reducible first | show (_ : Int) < _ | show (_ : Int) ≤ _ | show (_ : Int) ≠ _ | show (_ : Nat) < _ | show (_ : Nat) ≤ _ | show (_ : Nat) ≠ _); omega) | (simp only [aop, Bool.and_true, St.eval, List.getD_cons_zero, List.getD_cons_succ, aBin, binI, aUn, aLoad, loadPV_agg, aStore, aIndex, cellsOf, storable, storeL, upd, Int.toNat_natCast, List.map_cons, List.map_nil, List.length_cons, List.length_nil, List.drop_zero, List.take_succ_cons, List.take_zero, List.set_cons_zero, List.set_cons_succ, List.all_cons, List.all_nil, if_true, if_false, true_and, Nat.reduceAdd, Nat.reduceMul, Nat.reduceEqDiff, Nat.reduceLT, Nat.reduceLeDiff, Value.oneCell', Nat.zero_add, len_vls, len_tys, List.length_drop, Bool.not_true, eq_self, ht, ht2, se47, se49, ti38, ti64]; (all_goals fail_if_success show False))
        refine Rnd.normal (i + 1) ⟨by omega, fun k hk => ?_⟩ (by omega) ?_
        · by_cases e : k = i
          · rw [e]; exact hpv
          · exact hb k (by omega)
        · rw [wrap_id (x := (i : Int) + 1) (by omega) (by omega)]
          exact Weak.flat rfl (by simp [All2, vw, vwA, vwC, clean_b, clean_vls, clean_tys, eq_self])
    · obtain rfl : i = vs.length := by omega
      repeat' first | (with_reducible first | refine W.seq ?_ | refine W.region ?_ | refine W_ret ?_ | refine W_exit ?_ | refine Seq.normal ?_ | refine Seq.exit ?_ | refine Blk.same ?_ | refine Rnd.exit ?_ | refine aops_nil ?_) | ((with_reducible refine aops_run ?_ (fun K' hK' => ?_)); exact rfl) | ((with_reducible refine hK' _ _ ?_); clear hK'; dsimp only [put, List.set]) | ((with_reducible apply W_cond); (case hc => exact rfl); (case' h2 => (intro hc; replace hc := of_decide_eq_false hc)); (case' h1 => (intro hc; replace hc := of_decide_eq_true hc)); all_goals try (exfalso; first | omega | exact hc rfl | exact hc trivial | exact Bool.noConfusion hc)) | ((with_reducible first | refine Ends.ret ?_ | refine Ends.normal ?_); simp only [aRes, show Tryz.f58.results.toList = [.tmp 6] from rfl, aRess, aResV, oneOf, List.getD_cons_zero, List.getD_cons_succ]) | (simp only [aop, St.eval, List.getD_cons_zero, List.getD_cons_succ, aBin, binI, true_and, eq_self]; (all_goals fail_if_success show False))
      exact Out.flat' (congrArg Value.bool (eqfB_yes ⟨hlen, fun k hk => hb k hk⟩).symm)
  · rw [eqfB_no (fun e => hlen e.1)]
    refine Ok.walk Tryz.func58 rfl ?_; simp only [startSt, show Tryz.f58.ntmps = 32 from rfl, List.length_cons, List.length_nil, Nat.reduceAdd, Nat.reduceSub, List.replicate, List.cons_append, List.nil_append]
    repeat' first | (with_reducible first | refine W.seq ?_ | refine W.region ?_ | refine W_ret ?_ | refine Seq.normal ?_ | refine Seq.ret ?_ | refine aops_nil ?_) | ((with_reducible refine aops_run ?_ (fun K' hK' => ?_)); exact rfl) | ((with_reducible refine hK' _ _ ?_); clear hK'; dsimp only [put, List.set]) | ((with_reducible apply W_cond); (case hc => exact rfl); (case' h2 => (intro hc; replace hc := ndF hc)); (case' h1 => (intro hc; replace hc := ndT hc)); all_goals try (exfalso; first | omega | exact hc rfl | exact hc trivial | exact Bool.noConfusion hc)) | ((with_reducible first | refine Ends.ret ?_ | refine Ends.normal ?_); simp only [aRes, show Tryz.f58.results.toList = [.tmp 6] from rfl, aRess, aResV, oneOf, List.getD_cons_zero, List.getD_cons_succ]) | (simp only [aop, Option.isSome_some, St.eval, List.getD_cons_zero, List.getD_cons_succ, aBin, binI, aLen, aBuiltin, List.map_cons, List.map_nil, true_and, eq_self, se47, se49]; (all_goals fail_if_success show False))
    all_goals first | exact Out.flat' rfl | (exfalso; omega)
theorem okRow_eq (ts : List Ty) (vs : List Vl) : okRow ts vs = (okTys ts && eqfB (fun v t => okV v && (okTy t && fitV v t)) vs ts) := by
  by_cases h : okTys ts = true ∧ vs.length = ts.length ∧ ∀ i, i < vs.length → okV (vs.getD i vl0) = true ∧ fitV (vs.getD i vl0) (ts.getD i ty0) = true
  · obtain ⟨h1, h2, h3⟩ := h
    rw [okRow_yes ⟨h1, h2, h3⟩, h1, eqfB_yes ⟨h2, fun i hi => ?_⟩]
    · rfl
    · have h4 := h3 i hi
      have h5 : okTy (ts.getD i ty0) = true := by
        unfold okTys at h1
        rw [Bool.and_eq_true] at h1
        exact allT_get h1.1 (by omega)
      show (okV _ && (okTy _ && fitV _ _)) = true
      rw [h4.1, h5, h4.2]
      rfl
  · rw [okRow_no h]
    symm
    rw [Bool.and_eq_false_iff]
    by_cases h1 : okTys ts = true
    · refine .inr (eqfB_no fun e => h ⟨h1, e.1, fun i hi => ?_⟩)
      have := e.2 i hi
      simp only [Bool.and_eq_true] at this
      exact ⟨this.1, this.2.2⟩
    · exact .inl (by simpa using h1)
def VsIn (vs : List Vl) : Prop := vs.length ≤ 2000000 ∧ ∀ k, (vs.getD k vl0).num.limbs.length ≤ 2000000 ∧ (vs.getD k vl0).text.size ≤ 9223372036854775807
theorem RowOk_ok (ts : List Ty) (vs : List Vl) (ht : ts.length ≤ 2000000) (hv : VsIn vs) : Ok Tryz.prog 30 [vTys ts, vVls vs] (vB (okRow ts vs)) [] := by
  have hT := typesOk_ok ts ht
  have hE := equalF_ok (f := 59) (by kernel_rfl) (fun v t => okV v && (okTy t && fitV v t)) vs ts (fun k => ValueFits_ok _ _ (hv.2 k).1 (hv.2 k).2) hv.1 ht
  rw [okRow_eq]
  generalize eqfB (fun v t => okV v && (okTy t && fitV v t)) vs ts = b at hE ⊢
  generalize okTys ts = a at hT ⊢
  refine Ok.walk Tryz.func30 rfl ?_; simp only [startSt, show Tryz.f30.ntmps = 12 from rfl, List.length_cons, List.length_nil, Nat.reduceAdd, Nat.reduceSub, List.replicate, List.cons_append, List.nil_append]
  repeat' first | (with_reducible first | refine W.seq ?_ | refine W.region ?_ | refine W_ret ?_ | refine Seq.normal ?_ | refine aops_nil ?_) | ((with_reducible apply aops_callF); (case hg => exact rfl); (case ho => exact rfl); (case hc => exact rfl); (case hf => exact rfl); (case hok => first | exact hT | exact hE); (case hcal => first | assumption | kernel_rfl); (case hcl => (with_reducible simp only [List.map_cons, List.map_nil, List.forall_mem_cons, St.eval, List.getD_cons_zero, List.getD_cons_succ]); (repeat' with_reducible first | exact Cln.b _ | exact cln_strs | exact cln_wts | exact cln_vls | exact cln_tys | exact cln_vI | exact cln_nil | refine And.intro ?_ ?_ | refine Cln.agg ?_ | rw [List.forall_mem_cons])); (case' h => dsimp only [put, List.set])) | ((with_reducible refine aops_run ?_ (fun K' hK' => ?_)); exact rfl) | ((with_reducible refine aops_skip ?_ ?_); exact rfl; dsimp only [put, List.set]) | ((with_reducible apply aops_cons_if); (case hg => exact rfl); (case' h1 => (intro hg; (first | replace hg := beqT hg | replace hg := beqTf hg | replace hg := beqF hg | replace hg := beqFf hg); rw [hg]; (first | replace hg := of_decide_eq_true hg | replace hg := of_decide_eq_false hg | replace hg := ndT hg | replace hg := ndF hg | replace hg := nbT hg | replace hg := nbF hg | skip); (try (exfalso; omega)); all_goals (intro K' hK'))); (case' h2 => (intro hg; (first | replace hg := beqT hg | replace hg := beqTf hg | replace hg := beqF hg | replace hg := beqFf hg); rw [hg]; dsimp only [put, List.set]; (first | replace hg := of_decide_eq_true hg | replace hg := of_decide_eq_false hg | replace hg := ndT hg | replace hg := ndF hg | replace hg := nbT hg | replace hg := nbF hg | skip); (try (exfalso; omega))))) | ((with_reducible refine hK' _ _ ?_); clear hK'; dsimp only [put, List.set]) | ((with_reducible first | refine Ends.ret ?_ | refine Ends.normal ?_); simp only [aRes, show Tryz.f30.results.toList = [.tmp 4] from rfl, aRess, aResV, oneOf, List.getD_cons_zero, List.getD_cons_succ]) | (simp only [aop, St.eval, List.getD_cons_zero, List.getD_cons_succ, if_true, if_false, Bool.false_eq_true, eq_self]; (all_goals fail_if_success show False))
  all_goals exact Out.flat' rfl
theorem l6Ok_ok (ts : List Ty) (vs : List Vl) (ht : ts.length ≤ 2000000) (hv : VsIn vs) : Ok Tryz.prog 27 [vTys ts, vVls vs] (vB (okRow ts vs)) [] := by
  have hT := l6TypesOk_ok ts ht
  have hR := l5RowOk_ok vs hv.1 hv.2
  have hv1 := hv.1
  cases h1 : okTys ts with
  | false =>
    rw [h1] at hT
    rw [okRow_no (fun e => by rw [e.1] at h1; cases h1)]
    refine Ok.walk Tryz.func27 rfl ?_; simp only [startSt, show Tryz.f27.ntmps = 37 from rfl, List.length_cons, List.length_nil, Nat.reduceAdd, Nat.reduceSub, List.replicate, List.cons_append, List.nil_append]
    repeat' first | (with_reducible first | refine W.seq ?_ | refine W.region ?_ | refine W_ret ?_ | refine Seq.normal ?_ | refine Seq.ret ?_ | refine aops_nil ?_) | ((with_reducible apply aops_callF); (case hg => exact rfl); (case ho => exact rfl); (case hc => exact rfl); (case hf => exact rfl); (case hok => first | exact hT); (case hcal => first | assumption | kernel_rfl); (case hcl => (with_reducible simp only [List.map_cons, List.map_nil, List.forall_mem_cons, St.eval, List.getD_cons_zero, List.getD_cons_succ]); (repeat' with_reducible first | exact Cln.b _ | exact cln_strs | exact cln_wts | exact cln_vls | exact cln_tys | exact cln_vI | exact cln_nil | refine And.intro ?_ ?_ | refine Cln.agg ?_ | rw [List.forall_mem_cons])); (case' h => dsimp only [put, List.set])) | ((with_reducible refine aops_run ?_ (fun K' hK' => ?_)); exact rfl) | ((with_reducible refine aops_skip ?_ ?_); exact rfl; dsimp only [put, List.set]) | ((with_reducible refine hK' _ _ ?_); clear hK'; dsimp only [put, List.set]) | ((with_reducible apply W_cond); (case hc => exact rfl); all_goals intro hc; all_goals try (exfalso; first | omega | exact hc rfl | exact hc trivial | exact Bool.noConfusion hc)) | ((with_reducible first | refine Ends.ret ?_ | refine Ends.normal ?_); simp only [aRes, show Tryz.f27.results.toList = [.tmp 4] from rfl, aRess, aResV, oneOf, List.getD_cons_zero, List.getD_cons_succ]) | (simp only [aop, St.eval, List.getD_cons_zero, List.getD_cons_succ, aUn, if_true, Bool.not_false, eq_self]; (all_goals fail_if_success show False))
    all_goals exact Out.flat' rfl
  | true =>
    rw [h1] at hT
    by_cases h2 : vs.length = ts.length
    · cases h3 : vs.all okV with
      | false =>
        rw [h3] at hR
        rw [okRow_no (fun e => by rw [allT_yes (d := vl0) (fun k hk => (e.2.2 k hk).1)] at h3; cases h3)]
        refine Ok.walk Tryz.func27 rfl ?_; simp only [startSt, show Tryz.f27.ntmps = 37 from rfl, List.length_cons, List.length_nil, Nat.reduceAdd, Nat.reduceSub, List.replicate, List.cons_append, List.nil_append]
        repeat' first | (with_reducible first | refine W.seq ?_ | refine W.region ?_ | refine W_ret ?_ | refine Seq.normal ?_ | refine Seq.ret ?_ | refine aops_nil ?_) | ((with_reducible apply aops_callF); (case hg => exact rfl); (case ho => exact rfl); (case hc => exact rfl); (case hf => exact rfl); (case hok => first | exact hT | exact hR); (case hcal => first | assumption | kernel_rfl); (case hcl => (with_reducible simp only [List.map_cons, List.map_nil, List.forall_mem_cons, St.eval, List.getD_cons_zero, List.getD_cons_succ]); (repeat' with_reducible first | exact Cln.b _ | exact cln_strs | exact cln_wts | exact cln_vls | exact cln_tys | exact cln_vI | exact cln_nil | refine And.intro ?_ ?_ | refine Cln.agg ?_ | rw [List.forall_mem_cons])); (case' h => dsimp only [put, List.set])) | ((with_reducible refine aops_run ?_ (fun K' hK' => ?_)); exact rfl) | ((with_reducible apply aops_cons_if); (case hg => exact rfl); (case' h1 => (intro hg; (first | replace hg := beqT hg | replace hg := beqTf hg | replace hg := beqF hg | replace hg := beqFf hg); rw [hg]; (first | replace hg := of_decide_eq_true hg | replace hg := of_decide_eq_false hg | replace hg := ndT hg | replace hg := ndF hg | replace hg := nbT hg | replace hg := nbF hg | skip); (try (exfalso; omega)); all_goals (intro K' hK'))); (case' h2 => (intro hg; (first | replace hg := beqT hg | replace hg := beqTf hg | replace hg := beqF hg | replace hg := beqFf hg); rw [hg]; dsimp only [put, List.set]; (first | replace hg := of_decide_eq_true hg | replace hg := of_decide_eq_false hg | replace hg := ndT hg | replace hg := ndF hg | replace hg := nbT hg | replace hg := nbF hg | skip); (try (exfalso; omega))))) | ((with_reducible refine hK' _ _ ?_); clear hK'; dsimp only [put, List.set]) | ((with_reducible apply W_cond); (case hc => exact rfl); all_goals intro hc; all_goals try (exfalso; first | omega | exact hc rfl | exact hc trivial | exact Bool.noConfusion hc)) | ((with_reducible first | refine Ends.ret ?_ | refine Ends.normal ?_); simp only [aRes, show Tryz.f27.results.toList = [.tmp 4] from rfl, aRess, aResV, oneOf, List.getD_cons_zero, List.getD_cons_succ]) | (simp only [aop, Option.isSome_some, St.eval, List.getD_cons_zero, List.getD_cons_succ, aBin, binI, aUn, aLen, aBuiltin, List.map_cons, List.map_nil, if_false, Bool.false_eq_true, true_and, Bool.not_false, Bool.not_true, eq_self, se47, se49]; (all_goals fail_if_success show False))
        all_goals first | exact Out.flat' rfl | (exfalso; omega)
      | true =>
        rw [h3] at hR
        refine Ok.walk Tryz.func27 rfl ?_; simp only [startSt, show Tryz.f27.ntmps = 37 from rfl, List.length_cons, List.length_nil, Nat.reduceAdd, Nat.reduceSub, List.replicate, List.cons_append, List.nil_append]
        repeat' first | (with_reducible first | refine W.seq ?_ | refine W.region ?_ | refine W_skip ?_ | refine W.block ?_ | refine Seq.normal ?_ | refine aops_nil ?_) | ((with_reducible apply aops_callF); (case hg => exact rfl); (case ho => exact rfl); (case hc => exact rfl); (case hf => exact rfl); (case hok => first | exact hT | exact hR); (case hcal => first | assumption | kernel_rfl); (case hcl => (with_reducible simp only [List.map_cons, List.map_nil, List.forall_mem_cons, St.eval, List.getD_cons_zero, List.getD_cons_succ]); (repeat' with_reducible first | exact Cln.b _ | exact cln_strs | exact cln_wts | exact cln_vls | exact cln_tys | exact cln_vI | exact cln_nil | refine And.intro ?_ ?_ | refine Cln.agg ?_ | rw [List.forall_mem_cons])); (case' h => dsimp only [put, List.set])) | ((with_reducible refine aops_run ?_ (fun K' hK' => ?_)); exact rfl) | ((with_reducible apply aops_cons_if); (case hg => exact rfl); (case' h1 => (intro hg; (first | replace hg := beqT hg | replace hg := beqTf hg | replace hg := beqF hg | replace hg := beqFf hg); rw [hg]; (first | replace hg := of_decide_eq_true hg | replace hg := of_decide_eq_false hg | replace hg := ndT hg | replace hg := ndF hg | replace hg := nbT hg | replace hg := nbF hg | skip); (try (exfalso; omega)); all_goals (intro K' hK'))); (case' h2 => (intro hg; (first | replace hg := beqT hg | replace hg := beqTf hg | replace hg := beqF hg | replace hg := beqFf hg); rw [hg]; dsimp only [put, List.set]; (first | replace hg := of_decide_eq_true hg | replace hg := of_decide_eq_false hg | replace hg := ndT hg | replace hg := ndF hg | replace hg := nbT hg | replace hg := nbF hg | skip); (try (exfalso; omega))))) | ((with_reducible refine hK' _ _ ?_); clear hK'; dsimp only [put, List.set]) | ((with_reducible apply W_cond); (case hc => exact rfl); all_goals intro hc; all_goals try (exfalso; first | omega | exact hc rfl | exact hc trivial | exact Bool.noConfusion hc)) | (simp only [aop, Option.isSome_some, St.eval, List.getD_cons_zero, List.getD_cons_succ, aBin, binI, aUn, aLen, aBuiltin, List.map_cons, List.map_nil, if_false, Bool.false_eq_true, true_and, Bool.not_true, eq_self, se47, se49]; (all_goals fail_if_success show False))
        all_goals try (exfalso; omega)
        refine W.loop (fun i : Nat => ⟨[vTys ts, vVls vs, .any, .any, .any, vI i, .any, .any, .any, .any, .any, .any, .any, .any, .any, .any, .any, .any, .any, .any, .any, .any, .any, .any, .any, .any, .any, .any, .any, .any, .any, .any, .any, .any, .any, .any, .any], noMem⟩) (fun i => i ≤ vs.length ∧ ∀ k, k < i → fitV (vs.getD k vl0) (ts.getD k ty0) = true) (fun i => vs.length - i) 0 ?wk0 ⟨Nat.zero_le _, fun k hk => absurd hk (Nat.not_lt_zero _)⟩ (fun i hi => ?_)
        case wk0 => exact Weak.flat rfl (by simp [All2, vw, vwA, vwC, clean_b, clean_vls, clean_tys, eq_self])
        obtain ⟨hi, hb⟩ := hi
        by_cases hil : i < vs.length
        · have ht := take_vls hil
          have ht2 := take_tys (l := ts) (k := i) (by omega)
          have hq := l4Fits_ok (vs.getD i vl0) (ts.getD i ty0) (fun e => okV_num (allT_get h3 hil) e)
          cases hpv : fitV (vs.getD i vl0) (ts.getD i ty0) with
          | false =>
            rw [hpv] at hq
            rw [okRow_no (fun e => by have := (e.2.2 i hil).2; rw [hpv] at this; cases this)]
            generalize vs.getD i vl0 = v at ht hq
            generalize ts.getD i ty0 = t at ht2 hq
            obtain ⟨kind, yes, ⟨ng, l, sc⟩, day, months, days, text⟩ := v
            obtain ⟨tk, td, ts'⟩ := t
            repeat' first | (with_reducible first | refine W.seq ?_ | refine W.region ?_ | refine W_ret ?_ | refine W_skip ?_ | refine W.block ?_ | refine Seq.normal ?_ | refine Seq.ret ?_ | refine Blk.ret ?_ | refine Rnd.ret ?_ | refine aops_nil ?_ | refine aheadU_nil ?_) | ((with_reducible apply ahead_callF); (case hg => exact rfl); (case ho => exact rfl); (case hc => exact rfl); (case hf => exact rfl); (case hok => first | exact hq); (case hcal => first | assumption | kernel_rfl); (case hcl => (with_reducible simp only [List.map_cons, List.map_nil, List.forall_mem_cons, St.eval, List.getD_cons_zero, List.getD_cons_succ]); (repeat' with_reducible first | exact Cln.b _ | exact cln_strs | exact cln_wts | exact cln_vls | exact cln_tys | exact cln_vI | exact cln_nil | refine And.intro ?_ ?_ | refine Cln.agg ?_ | rw [List.forall_mem_cons])); (case' h => dsimp only [putL, List.set])) | ((with_reducible refine aops_run ?_ (fun K' hK' => ?_)); exact rfl) | ((with_reducible refine aheadU_run ?_ ?_ ?_ (fun K' hA' => ?_)); exact rfl; exact rfl; exact rfl) | ((with_reducible refine hA'.1 _ ?_); clear hA'; dsimp only [putL, List.set]) | ((with_reducible refine W.drawU (id := 6) (n := 10) mixed ?_ ?_ ?_ ?_); kernel_rfl; (simp only [List.length_cons, List.length_nil]; omega); (intro k h1 h2; first | rfl | ((try simp only [rowsAt, impRows, List.map_nil]); (repeat rw [upd_ne _ _ (by omega)]) <;> rfl) | (simp only [upd]; (repeat' split) <;> first | rfl | omega)); dsimp only [List.take, List.drop]) | ((with_reducible refine hK' _ _ ?_); clear hK'; dsimp only [put, List.set]) | ((with_reducible apply W_cond); (case hc => exact rfl); (case' h2 => (intro hc; replace hc := of_decide_eq_false hc)); (case' h1 => (intro hc; replace hc := of_decide_eq_true hc)); all_goals try (exfalso; first | omega | exact hc rfl | exact hc trivial | exact Bool.noConfusion hc)) | ((with_reducible apply W_cond); (case hc => exact rfl); all_goals intro hc; all_goals try (exfalso; first | omega | exact hc rfl | exact hc trivial | exact Bool.noConfusion hc)) | (with_reducible first | refine And.intro ?_ ?_) | ((with_reducible first | show (_ : Int) < _ | show (_ : Int) ≤ _ | show (_ : Int) ≠ _ | show (_ : Nat) < _ | show (_ : Nat) ≤ _ | show (_ : Nat) ≠ _); omega) | ((with_reducible first | refine Ends.ret ?_ | refine Ends.normal ?_); simp only [aRes, show Tryz.f27.results.toList = [.tmp 4] from rfl, aRess, aResV, oneOf, List.getD_cons_zero, List.getD_cons_succ]) | (simp only [aop, Option.isSome_some, St.eval, List.getD_cons_zero, List.getD_cons_succ, aBin, binI, aUn, aLoad, loadPV_agg, aIndex, aLen, aBuiltin, addU, Int.toNat_natCast, List.map_cons, List.map_nil, true_and, len_vls, len_tys, List.length_drop, Bool.not_false, eq_self, ht, ht2, se47, se49, ti38, ti64]; (all_goals fail_if_success show False))
            exact Out.flat' rfl
          | true =>
            rw [hpv] at hq
            generalize vs.getD i vl0 = v at ht hq
            generalize ts.getD i ty0 = t at ht2 hq
            obtain ⟨kind, yes, ⟨ng, l, sc⟩, day, months, days, text⟩ := v
            obtain ⟨tk, td, ts'⟩ := t
            repeat' first | (with_reducible first | refine W.seq ?_ | refine W.region ?_ | refine W_skip ?_ | refine W.block ?_ | refine Seq.normal ?_ | refine Blk.normal ?_ | refine aops_nil ?_ | refine aheadU_nil ?_) | ((with_reducible apply ahead_callF); (case hg => exact rfl); (case ho => exact rfl); (case hc => exact rfl); (case hf => exact rfl); (case hok => first | exact hq); (case hcal => first | assumption | kernel_rfl); (case hcl => (with_reducible simp only [List.map_cons, List.map_nil, List.forall_mem_cons, St.eval, List.getD_cons_zero, List.getD_cons_succ]); (repeat' with_reducible first | exact Cln.b _ | exact cln_strs | exact cln_wts | exact cln_vls | exact cln_tys | exact cln_vI | exact cln_nil | refine And.intro ?_ ?_ | refine Cln.agg ?_ | rw [List.forall_mem_cons])); (case' h => dsimp only [putL, List.set])) | ((with_reducible refine aops_run ?_ (fun K' hK' => ?_)); exact rfl) | ((with_reducible refine aheadU_run ?_ ?_ ?_ (fun K' hA' => ?_)); exact rfl; exact rfl; exact rfl) | ((with_reducible refine hA'.1 _ ?_); clear hA'; dsimp only [putL, List.set]) | ((with_reducible refine W.drawU (id := 6) (n := 10) mixed ?_ ?_ ?_ ?_); kernel_rfl; (simp only [List.length_cons, List.length_nil]; omega); (intro k h1 h2; first | rfl | ((try simp only [rowsAt, impRows, List.map_nil]); (repeat rw [upd_ne _ _ (by omega)]) <;> rfl) | (simp only [upd]; (repeat' split) <;> first | rfl | omega)); dsimp only [List.take, List.drop]) | ((with_reducible refine hK' _ _ ?_); clear hK'; dsimp only [put, List.set]) | ((with_reducible apply W_cond); (case hc => exact rfl); (case' h2 => (intro hc; replace hc := of_decide_eq_false hc)); (case' h1 => (intro hc; replace hc := of_decide_eq_true hc)); all_goals try (exfalso; first | omega | exact hc rfl | exact hc trivial | exact Bool.noConfusion hc)) | ((with_reducible apply W_cond); (case hc => exact rfl); all_goals intro hc; all_goals try (exfalso; first | omega | exact hc rfl | exact hc trivial | exact Bool.noConfusion hc)) | (with_reducible first | refine And.intro ?_ ?_) | ((with_reducible first | show (_ : Int) < _ | show (_ : Int) ≤ _ | show (_ : Int) ≠ _ | show (_ : Nat) < _ | show (_ : Nat) ≤ _ | show (_ : Nat) ≠ _); omega) | (simp only [aop, Option.isSome_some, St.eval, List.getD_cons_zero, List.getD_cons_succ, aBin, binI, aUn, aLoad, loadPV_agg, aIndex, aLen, aBuiltin, addU, Int.toNat_natCast, List.map_cons, List.map_nil, true_and, len_vls, len_tys, List.length_drop, Bool.not_true, eq_self, ht, ht2, se47, se49, ti38, ti64]; (all_goals fail_if_success show False))
            refine Rnd.normal (i + 1) ⟨by omega, fun k hk => ?_⟩ (by omega) ?_
            · by_cases e : k = i
              · rw [e]; exact hpv
              · exact hb k (by omega)
            · rw [wrap_id (x := (i : Int) + 1) (by omega) (by omega)]
              exact Weak.flat rfl (by simp [All2, vw, vwA, vwC, clean_b, clean_vls, clean_tys, eq_self])
        · obtain rfl : i = vs.length := by omega
          rw [okRow_yes ⟨h1, h2, fun i hi => ⟨allT_get h3 hi, hb i hi⟩⟩]
          repeat' first | (with_reducible first | refine W.seq ?_ | refine W.region ?_ | refine W_ret ?_ | refine W_exit ?_ | refine Seq.normal ?_ | refine Seq.exit ?_ | refine Blk.same ?_ | refine Rnd.exit ?_ | refine aops_nil ?_) | ((with_reducible refine aops_run ?_ (fun K' hK' => ?_)); exact rfl) | ((with_reducible refine hK' _ _ ?_); clear hK'; dsimp only [put, List.set]) | ((with_reducible apply W_cond); (case hc => exact rfl); (case' h2 => (intro hc; replace hc := of_decide_eq_false hc)); (case' h1 => (intro hc; replace hc := of_decide_eq_true hc)); all_goals try (exfalso; first | omega | exact hc rfl | exact hc trivial | exact Bool.noConfusion hc)) | ((with_reducible first | refine Ends.ret ?_ | refine Ends.normal ?_); simp only [aRes, show Tryz.f27.results.toList = [.tmp 4] from rfl, aRess, aResV, oneOf, List.getD_cons_zero, List.getD_cons_succ]) | (simp only [aop, Option.isSome_some, St.eval, List.getD_cons_zero, List.getD_cons_succ, aBin, binI, aLen, aBuiltin, List.map_cons, List.map_nil, true_and, eq_self, se49]; (all_goals fail_if_success show False))
          exact Out.flat' rfl
    · rw [okRow_no (fun e => h2 e.2.1)]
      refine Ok.walk Tryz.func27 rfl ?_; simp only [startSt, show Tryz.f27.ntmps = 37 from rfl, List.length_cons, List.length_nil, Nat.reduceAdd, Nat.reduceSub, List.replicate, List.cons_append, List.nil_append]
      repeat' first | (with_reducible first | refine W.seq ?_ | refine W.region ?_ | refine W_ret ?_ | refine Seq.normal ?_ | refine Seq.ret ?_ | refine aops_nil ?_) | ((with_reducible apply aops_callF); (case hg => exact rfl); (case ho => exact rfl); (case hc => exact rfl); (case hf => exact rfl); (case hok => first | exact hT | exact hR); (case hcal => first | assumption | kernel_rfl); (case hcl => (with_reducible simp only [List.map_cons, List.map_nil, List.forall_mem_cons, St.eval, List.getD_cons_zero, List.getD_cons_succ]); (repeat' with_reducible first | exact Cln.b _ | exact cln_strs | exact cln_wts | exact cln_vls | exact cln_tys | exact cln_vI | exact cln_nil | refine And.intro ?_ ?_ | refine Cln.agg ?_ | rw [List.forall_mem_cons])); (case' h => dsimp only [put, List.set])) | ((with_reducible refine aops_run ?_ (fun K' hK' => ?_)); exact rfl) | ((with_reducible refine aops_skip ?_ ?_); exact rfl; dsimp only [put, List.set]) | ((with_reducible apply aops_cons_if); (case hg => exact rfl); (case' h1 => (intro hg; (first | replace hg := beqT hg | replace hg := beqTf hg | replace hg := beqF hg | replace hg := beqFf hg); rw [hg]; (first | replace hg := of_decide_eq_true hg | replace hg := of_decide_eq_false hg | replace hg := ndT hg | replace hg := ndF hg | replace hg := nbT hg | replace hg := nbF hg | skip); (try (exfalso; omega)); all_goals (intro K' hK'))); (case' h2 => (intro hg; (first | replace hg := beqT hg | replace hg := beqTf hg | replace hg := beqF hg | replace hg := beqFf hg); rw [hg]; dsimp only [put, List.set]; (first | replace hg := of_decide_eq_true hg | replace hg := of_decide_eq_false hg | replace hg := ndT hg | replace hg := ndF hg | replace hg := nbT hg | replace hg := nbF hg | skip); (try (exfalso; omega))))) | ((with_reducible refine hK' _ _ ?_); clear hK'; dsimp only [put, List.set]) | ((with_reducible apply W_cond); (case hc => exact rfl); all_goals intro hc; all_goals try (exfalso; first | omega | exact hc rfl | exact hc trivial | exact Bool.noConfusion hc)) | ((with_reducible first | refine Ends.ret ?_ | refine Ends.normal ?_); simp only [aRes, show Tryz.f27.results.toList = [.tmp 4] from rfl, aRess, aResV, oneOf, List.getD_cons_zero, List.getD_cons_succ]) | (simp only [aop, Option.isSome_some, St.eval, List.getD_cons_zero, List.getD_cons_succ, aBin, binI, aUn, aLen, aBuiltin, List.map_cons, List.map_nil, if_true, if_false, Bool.false_eq_true, true_and, Bool.not_true, eq_self, se47, se49]; (all_goals fail_if_success show False))
      all_goals first | exact Out.flat' rfl | (exfalso; omega)
theorem putV_size {v : Vl} (h : okV v = true) : (putV v).size ≤ 3000000 := by
  obtain ⟨h0, h5, hb, hk⟩ := okV_parts h
  have h1 : ∀ c : UInt8, (⟨#[c]⟩ : ByteArray).size = 1 := fun _ => rfl
  unfold putV
  rcases (by omega : v.kind = 0 ∨ v.kind = 1 ∨ v.kind = 2 ∨ v.kind = 3 ∨ v.kind = 4 ∨ v.kind = 5) with e | e | e | e | e | e
  · rw [if_pos e]; decide
  · rw [if_neg (by omega), if_neg (by omega), if_neg (by omega), if_neg (by omega), if_pos e]
    split <;> decide
  · rw [if_neg (by omega), if_neg (by omega), if_neg (by omega), if_neg (by omega), if_neg (by omega)]
    rw [if_pos e] at hk
    have hl := okD_limbs hk
    have hz := figL_size hl.2 (by omega)
    have hs : 0 ≤ v.num.scale ∧ v.num.scale ≤ 12 := by
      unfold okD at hk
      simp only [Bool.and_eq_true, decide_eq_true_eq] at hk
      exact hk.2.2
    have hd : ∀ (s : ByteArray) (k : Nat), (dotB s k).size ≤ 2 * s.size + 1 := fun s k => by
      unfold dotB
      split
      · simp only [ByteArray.size_append, ByteArray.size_extract, h1]; omega
      · omega
    have hp := padB_size (s := figL v.num.limbs) (w := v.num.scale.toNat + 1)
    have := hd (padB (figL v.num.limbs) (v.num.scale.toNat + 1)) v.num.scale.toNat
    unfold decT
    split
    · rw [ByteArray.size_append, h1]; omega
    · omega
  · rw [if_neg (by omega), if_pos e]
    rw [if_neg (by omega), if_pos e] at hk
    have := dayT_size (of_decide_eq_true hk)
    rw [ByteArray.size_append, h1]
    omega
  · rw [if_neg (by omega), if_neg (by omega), if_pos e]
    rw [if_neg (by omega), if_neg (by omega), if_pos e] at hk
    have := spanT_size hk
    rw [ByteArray.size_append, h1]
    omega
  · rw [if_neg (by omega), if_neg (by omega), if_neg (by omega), if_pos e]
    rw [if_neg (by omega), if_neg (by omega), if_neg (by omega)] at hk
    have hz : v.text.size ≤ 12 := by unfold okT at hk; rw [Bool.and_eq_true] at hk; exact of_decide_eq_true hk.2
    have := quoT_size v.text
    omega
theorem rowK_size {vs : List Vl} (h : ∀ k, k < vs.length → okV (vs.getD k vl0) = true) : ∀ k, k ≤ vs.length → (rowK vs k).size ≤ 3000001 * k
  | 0, _ => Nat.zero_le _
  | k + 1, hk => by
    have h1 := rowK_size h k (by omega)
    have h2 := putV_size (h k (by omega))
    have h3 : (⟨#[10]⟩ : ByteArray).size = 1 := rfl
    rw [rowK, ByteArray.size_append, ByteArray.size_append, h3]
    omega
theorem l6Put_ok (vs : List Vl) (hl : vs.length ≤ 4) (h : ∀ k, k < vs.length → okV (vs.getD k vl0) = true) : Ok Tryz.prog 28 [vVls vs] (vS (rowT vs)) [] := by
  unfold rowT
  refine Ok.walk Tryz.func28 rfl ?_; simp only [startSt, show Tryz.f28.ntmps = 20 from rfl, List.length_cons, List.length_nil, Nat.reduceAdd, Nat.reduceSub, List.replicate, List.cons_append, List.nil_append]
  repeat' first | (with_reducible first | refine W.seq ?_ | refine W.region ?_ | refine W.block ?_ | refine Seq.normal ?_ | refine aops_nil ?_) | ((with_reducible refine aops_run ?_ (fun K' hK' => ?_)); exact rfl) | ((with_reducible refine hK' _ _ ?_); clear hK'; dsimp only [put, List.set]) | (simp only [aop, St.eval]; (all_goals fail_if_success show False))
  refine W.loop (fun i : Nat => ⟨[vVls vs, .any, .any, vS (rowK vs i), vI i, .any, .any, .any, .any, .any, .any, .any, .any, .any, .any, .any, .any, .any, .any, .any], noMem⟩) (fun i => i ≤ vs.length) (fun i => vs.length - i) 0 ?wk0 (Nat.zero_le _) (fun i hi => ?_)
  case wk0 => rw [show rowK vs 0 = ⟨#[]⟩ from rfl]; exact Weak.flat rfl (by simp [All2, vw, vwA, vwC, clean_b, vS, clean_vls, eq_self])
  by_cases hil : i < vs.length
  · have ht := take_vls hil
    have hq := l4Put_ok (vs.getD i vl0) (h i hil)
    have hz := putV_size (h i hil)
    have hz2 := rowK_size h i hi
    have ek : rowK vs (i + 1) = rowK vs i ++ putV (vs.getD i vl0) ++ (⟨#[10]⟩ : ByteArray) := by rw [rowK, ByteArray.append_assoc]
    generalize putV (vs.getD i vl0) = s at hq hz ek
    generalize rowK vs i = r at hz2 ek ⊢
    generalize vs.getD i vl0 = v at ht hq
    obtain ⟨kind, yes, ⟨ng, l, sc⟩, day, months, days, text⟩ := v
    have h1 : ∀ c : UInt8, (⟨#[c]⟩ : ByteArray).size = 1 := fun _ => rfl
    repeat' first | ((with_reducible show _ + _ ≤ 9223372036854775807); (simp only [ByteArray.size_append, h1]; omega)) | (with_reducible first | refine W.seq ?_ | refine W.region ?_ | refine W_skip ?_ | refine W.block ?_ | refine Seq.normal ?_ | refine Blk.normal ?_ | refine aops_nil ?_) | ((with_reducible apply aops_callF); (case hg => exact rfl); (case ho => exact rfl); (case hc => exact rfl); (case hf => exact rfl); (case hok => first | exact hq); (case hcal => first | assumption | kernel_rfl); (case hcl => (with_reducible simp only [List.map_cons, List.map_nil, List.forall_mem_cons, St.eval, List.getD_cons_zero, List.getD_cons_succ]); (repeat' with_reducible first | exact Cln.b _ | exact cln_strs | exact cln_wts | exact cln_vls | exact cln_tys | exact cln_vI | exact cln_nil | refine And.intro ?_ ?_ | refine Cln.agg ?_ | rw [List.forall_mem_cons])); (case' h => dsimp only [put, List.set])) | ((with_reducible refine aops_run ?_ (fun K' hK' => ?_)); exact rfl) | ((with_reducible refine hK' _ _ ?_); clear hK'; dsimp only [put, List.set]) | ((with_reducible apply W_cond); (case hc => exact rfl); (case' h2 => (intro hc; replace hc := of_decide_eq_false hc)); (case' h1 => (intro hc; replace hc := of_decide_eq_true hc)); all_goals try (exfalso; first | omega | exact hc rfl | exact hc trivial | exact Bool.noConfusion hc)) | (with_reducible first | refine And.intro ?_ ?_) | ((with_reducible first | show (_ : Int) < _ | show (_ : Int) ≤ _ | show (_ : Int) ≠ _ | show (_ : Nat) < _ | show (_ : Nat) ≤ _ | show (_ : Nat) ≠ _); omega) | (simp only [aop, Option.isSome_some, St.eval, List.getD_cons_zero, List.getD_cons_succ, aBin, binI, binS, aLoad, loadPV_agg, aIndex, aLen, aBuiltin, Int.toNat_natCast, List.map_cons, List.map_nil, true_and, len_vls, List.length_drop, eq_self, ht, se49, ti38]; (all_goals fail_if_success show False))
    refine Rnd.normal (i + 1) (by omega) (by omega) ?_
    rw [wrap_id (x := (i : Int) + 1) (by omega) (by omega), ek]
    exact Weak.flat rfl (by simp [All2, vw, vwA, vwC, clean_b, vS, clean_vls, eq_self])
  · obtain rfl : i = vs.length := by omega
    repeat' first | (with_reducible first | refine W.seq ?_ | refine W.region ?_ | refine W_ret ?_ | refine W_exit ?_ | refine Seq.normal ?_ | refine Seq.exit ?_ | refine Blk.same ?_ | refine Rnd.exit ?_ | refine aops_nil ?_) | ((with_reducible refine aops_run ?_ (fun K' hK' => ?_)); exact rfl) | ((with_reducible refine hK' _ _ ?_); clear hK'; dsimp only [put, List.set]) | ((with_reducible apply W_cond); (case hc => exact rfl); (case' h2 => (intro hc; replace hc := of_decide_eq_false hc)); (case' h1 => (intro hc; replace hc := of_decide_eq_true hc)); all_goals try (exfalso; first | omega | exact hc rfl | exact hc trivial | exact Bool.noConfusion hc)) | ((with_reducible first | refine Ends.ret ?_ | refine Ends.normal ?_); simp only [aRes, show Tryz.f28.results.toList = [.tmp 2] from rfl, aRess, aResV, oneOf, List.getD_cons_zero, List.getD_cons_succ]) | (simp only [aop, Option.isSome_some, St.eval, List.getD_cons_zero, List.getD_cons_succ, aBin, binI, aLen, aBuiltin, List.map_cons, List.map_nil, true_and, eq_self, se49]; (all_goals fail_if_success show False))
    exact Out.flat' rfl
noncomputable def rowO (b : Bool) (vs : List Vl) : ByteArray := if b = true then rowT vs else ByteArray.empty
theorem okRow_all {ts : List Ty} {vs : List Vl} (h : okRow ts vs = true) : vs.length ≤ 4 ∧ ∀ k, k < vs.length → okV (vs.getD k vl0) = true := by
  have h := of_decide_eq_true h
  refine ⟨?_, fun k hk => (h.2.2 k hk).1⟩
  have h1 := h.1
  unfold okTys at h1
  rw [Bool.and_eq_true] at h1
  have := of_decide_eq_true h1.2
  omega
theorem specRowPut_ok (ts : List Ty) (vs : List Vl) (ht : ts.length ≤ 2000000) (hv : VsIn vs) : Ok Tryz.prog 12 [vTys ts, vVls vs] (vS (rowO (okRow ts vs) vs)) [] := by
  have hO := l6Ok_ok ts vs ht hv
  unfold rowO
  cases hk : okRow ts vs with
  | false =>
    rw [hk] at hO
    rw [if_neg (by decide)]
    refine Ok.walk Tryz.func12 rfl ?_; simp only [startSt, show Tryz.f12.ntmps = 11 from rfl, List.length_cons, List.length_nil, Nat.reduceAdd, Nat.reduceSub, List.replicate, List.cons_append, List.nil_append]
    repeat' first | (with_reducible first | refine W.seq ?_ | refine W.region ?_ | refine W_ret ?_ | refine Seq.normal ?_ | refine Seq.ret ?_ | refine aops_nil ?_) | ((with_reducible apply aops_callF); (case hg => exact rfl); (case ho => exact rfl); (case hc => exact rfl); (case hf => exact rfl); (case hok => first | exact hO); (case hcal => first | assumption | kernel_rfl); (case hcl => (with_reducible simp only [List.map_cons, List.map_nil, List.forall_mem_cons, St.eval, List.getD_cons_zero, List.getD_cons_succ]); (repeat' with_reducible first | exact Cln.b _ | exact cln_strs | exact cln_wts | exact cln_vls | exact cln_tys | exact cln_vI | exact cln_nil | refine And.intro ?_ ?_ | refine Cln.agg ?_ | rw [List.forall_mem_cons])); (case' h => dsimp only [put, List.set])) | ((with_reducible refine aops_run ?_ (fun K' hK' => ?_)); exact rfl) | ((with_reducible refine hK' _ _ ?_); clear hK'; dsimp only [put, List.set]) | ((with_reducible apply W_cond); (case hc => exact rfl); all_goals intro hc; all_goals try (exfalso; first | omega | exact hc rfl | exact hc trivial | exact Bool.noConfusion hc)) | ((with_reducible first | refine Ends.ret ?_ | refine Ends.normal ?_); simp only [aRes, show Tryz.f12.results.toList = [.tmp 4] from rfl, aRess, aResV, oneOf, List.getD_cons_zero, List.getD_cons_succ]) | (simp only [aop, St.eval, List.getD_cons_zero, List.getD_cons_succ, aUn, Bool.not_false]; (all_goals fail_if_success show False))
    all_goals exact Out.flat' rfl
  | true =>
    obtain ⟨h1, h2⟩ := okRow_all hk
    have hP := l6Put_ok vs h1 h2
    rw [hk] at hO
    rw [if_pos rfl]
    generalize rowT vs = t at hP ⊢
    refine Ok.walk Tryz.func12 rfl ?_; simp only [startSt, show Tryz.f12.ntmps = 11 from rfl, List.length_cons, List.length_nil, Nat.reduceAdd, Nat.reduceSub, List.replicate, List.cons_append, List.nil_append]
    repeat' first | (with_reducible first | refine W.seq ?_ | refine W.region ?_ | refine W_ret ?_ | refine W_skip ?_ | refine Seq.normal ?_ | refine aops_nil ?_) | ((with_reducible apply aops_callF); (case hg => exact rfl); (case ho => exact rfl); (case hc => exact rfl); (case hf => exact rfl); (case hok => first | exact hO | exact hP); (case hcal => first | assumption | kernel_rfl); (case hcl => (with_reducible simp only [List.map_cons, List.map_nil, List.forall_mem_cons, St.eval, List.getD_cons_zero, List.getD_cons_succ]); (repeat' with_reducible first | exact Cln.b _ | exact cln_strs | exact cln_wts | exact cln_vls | exact cln_tys | exact cln_vI | exact cln_nil | refine And.intro ?_ ?_ | refine Cln.agg ?_ | rw [List.forall_mem_cons])); (case' h => dsimp only [put, List.set])) | ((with_reducible refine aops_run ?_ (fun K' hK' => ?_)); exact rfl) | ((with_reducible refine hK' _ _ ?_); clear hK'; dsimp only [put, List.set]) | ((with_reducible apply W_cond); (case hc => exact rfl); all_goals intro hc; all_goals try (exfalso; first | omega | exact hc rfl | exact hc trivial | exact Bool.noConfusion hc)) | ((with_reducible first | refine Ends.ret ?_ | refine Ends.normal ?_); simp only [aRes, show Tryz.f12.results.toList = [.tmp 4] from rfl, aRess, aResV, oneOf, List.getD_cons_zero, List.getD_cons_succ]) | (simp only [aop, St.eval, List.getD_cons_zero, List.getD_cons_succ, aUn, Bool.not_true]; (all_goals fail_if_success show False))
    all_goals exact Out.flat' rfl
end Go.Proofs.YtneapbfomhalpaaGreatDoor.T
