/- Walks of values, part 13: the reference's texts that are ok. -/
import Derived.Test.YtneapbfomhalpaaGreatDoorQVL
set_option linter.unusedVariables false
set_option maxRecDepth 100000
set_option maxHeartbeats 4000000
set_option linter.unusedSimpArgs false
namespace Go.Pv
def chOk (c : UInt8) : Bool := decide (32 ≤ c.toNat ∧ c.toNat ≤ 126)
def okT (s : ByteArray) : Bool := s.data.toList.all chOk && decide (s.size ≤ 12)
theorem all_no {l : List UInt8} {i : Nat} (hi : i < l.length) (h : chOk (l.getD i 0) = false) : l.all chOk = false := by
  rw [List.getD_eq_getElem?_getD, List.getElem?_eq_getElem hi] at h
  exact List.all_eq_false.2 ⟨_, List.getElem_mem hi, by rw [show (some l[i]).getD 0 = l[i] from rfl] at h; rw [h]; decide⟩
theorem all_yes {l : List UInt8} (h : ∀ k, k < l.length → chOk (l.getD k 0) = true) : l.all chOk = true := by
  rw [List.all_eq_true]
  intro x hx
  obtain ⟨k, hk, rfl⟩ := List.getElem_of_mem hx
  have := h k hk
  rw [List.getD_eq_getElem?_getD, List.getElem?_eq_getElem hk] at this
  exact this
end Go.Pv
namespace Go.Proofs.YtneapbfomhalpaaGreatDoor.T
open Go Go.Pv Go.Proofs.YtneapbfomhalpaaGreatDoor.EF
theorem l4Text_ok (s : ByteArray) (h : s.size ≤ 9223372036854775807) : Ok Tryz.prog 40 [vS s] (vB (okT s)) [] := by
  have hsz : s.data.toList.length = s.size := rfl
  unfold okT
  refine Ok.walk Tryz.func40 rfl ?_; simp only [startSt, show Tryz.f40.ntmps = 23 from rfl, List.length_cons, List.length_nil, Nat.reduceAdd, Nat.reduceSub, List.replicate, List.cons_append, List.nil_append]
  repeat' first | (with_reducible first | refine W.seq ?_ | refine W.region ?_ | refine W.block ?_ | refine Seq.normal ?_ | refine aops_nil ?_) | ((with_reducible refine aops_run ?_ (fun K' hK' => ?_)); exact rfl) | ((with_reducible refine hK' _ _ ?_); clear hK'; dsimp only [put, List.set]) | (simp only [aop, St.eval]; (all_goals fail_if_success show False))
  refine W.loop (fun i : Nat => ⟨[vS s, .any, .any, vI i, .any, .any, .any, .any, .any, .any, .any, .any, .any, .any, .any, .any, .any, .any, .any, .any, .any, .any, .any], noMem⟩) (fun i => i ≤ s.size ∧ ∀ k, k < i → chOk (s.data.toList.getD k 0) = true) (fun i => s.size - i) 0 ?wk0 ⟨Nat.zero_le _, fun k hk => absurd hk (Nat.not_lt_zero _)⟩ (fun i hi => ?_)
  case wk0 => exact Weak.flat rfl (by simp [All2, vw, vwA, vwC, clean_b, vS])
  obtain ⟨hi, hall⟩ := hi
  by_cases hil : i < s.size
  · generalize hcv : s.data.toList.getD i 0 = cv
    repeat' first | (with_reducible first | refine W.seq ?_ | refine W.region ?_ | refine W_ret ?_ | refine W_skip ?_ | refine W.block ?_ | refine Seq.normal ?_ | refine Seq.ret ?_ | refine Blk.normal ?_ | refine Blk.ret ?_ | refine Rnd.ret ?_ | refine aops_nil ?_) | ((with_reducible refine aops_run ?_ (fun K' hK' => ?_)); exact rfl) | ((with_reducible refine aops_skip ?_ ?_); exact rfl; dsimp only [put, List.set]) | ((with_reducible apply aops_cons_if); (case hg => exact rfl); (case' h1 => (intro hg; (first | replace hg := beqT hg | replace hg := beqTf hg | replace hg := beqF hg | replace hg := beqFf hg); rw [hg]; (first | replace hg := of_decide_eq_true hg | replace hg := of_decide_eq_false hg | replace hg := ndT hg | replace hg := ndF hg | replace hg := nbT hg | replace hg := nbF hg | skip); (try (exfalso; omega)); all_goals (intro K' hK'))); (case' h2 => (intro hg; (first | replace hg := beqT hg | replace hg := beqTf hg | replace hg := beqF hg | replace hg := beqFf hg); rw [hg]; dsimp only [put, List.set]; (first | replace hg := of_decide_eq_true hg | replace hg := of_decide_eq_false hg | replace hg := ndT hg | replace hg := ndF hg | replace hg := nbT hg | replace hg := nbF hg | skip); (try (exfalso; omega))))) | ((with_reducible refine hK' _ _ ?_); clear hK'; dsimp only [put, List.set]) | ((with_reducible apply W_cond); (case hc => exact rfl); (case' h2 => (intro hc; replace hc := of_decide_eq_false hc)); (case' h1 => (intro hc; replace hc := of_decide_eq_true hc)); all_goals try (exfalso; first | omega | exact hc rfl | exact hc trivial | exact Bool.noConfusion hc)) | ((with_reducible apply W_cond); (case hc => exact rfl); all_goals intro hc; all_goals try (exfalso; first | omega | exact hc rfl | exact hc trivial | exact Bool.noConfusion hc)) | (with_reducible first | refine And.intro ?_ ?_) | ((with_reducible first | show (_ : Int) < _ | show (_ : Int) ≤ _ | show (_ : Int) ≠ _ | show (_ : Nat) < _ | show (_ : Nat) ≤ _ | show (_ : Nat) ≠ _); omega) | ((with_reducible first | refine Ends.ret ?_ | refine Ends.normal ?_); simp only [aRes, show Tryz.f40.results.toList = [.tmp 2] from rfl, aRess, aResV, oneOf, List.getD_cons_zero, List.getD_cons_succ]) | (simp only [aop, St.eval, List.getD_cons_zero, List.getD_cons_succ, aBin, binI, aLen, aBuiltin, aIdxS, Int.toNat_natCast, List.map_cons, List.map_nil, if_true, if_false, Bool.false_eq_true, true_and, Int.toNat_natCast, hcv, us9]; (all_goals fail_if_success show False))
    all_goals first
      | exact Out.flat' (congrArg Value.bool (by rw [all_no (i := i) (by rw [hsz]; exact hil) (by rw [hcv]; unfold chOk; exact decide_eq_false (by omega))]; rfl))
      | (refine Rnd.normal (i + 1) ⟨by omega, fun k hk => ?_⟩ (by omega) ?_
         · by_cases e : k = i
           · rw [e, hcv]; unfold chOk; exact decide_eq_true (by omega)
           · exact hall k (by omega)
         · rw [wrap_id (x := (i : Int) + 1) (by omega) (by omega)]
           exact Weak.flat rfl (by simp [All2, vw, vwA, vwC, clean_b, vS]))
      | fail
  · obtain rfl : i = s.size := by omega
    have ha := all_yes (l := s.data.toList) (fun k hk => hall k (by rw [hsz] at hk; exact hk))
    rw [ha]
    repeat' first | (with_reducible first | refine W.seq ?_ | refine W.region ?_ | refine W_ret ?_ | refine W_exit ?_ | refine Seq.normal ?_ | refine Seq.exit ?_ | refine Blk.same ?_ | refine Rnd.exit ?_ | refine aops_nil ?_) | ((with_reducible refine aops_run ?_ (fun K' hK' => ?_)); exact rfl) | ((with_reducible refine hK' _ _ ?_); clear hK'; dsimp only [put, List.set]) | ((with_reducible apply W_cond); (case hc => exact rfl); (case' h2 => (intro hc; replace hc := of_decide_eq_false hc)); (case' h1 => (intro hc; replace hc := of_decide_eq_true hc)); all_goals try (exfalso; first | omega | exact hc rfl | exact hc trivial | exact Bool.noConfusion hc)) | ((with_reducible first | refine Ends.ret ?_ | refine Ends.normal ?_); simp only [aRes, show Tryz.f40.results.toList = [.tmp 2] from rfl, aRess, aResV, oneOf, List.getD_cons_zero, List.getD_cons_succ]) | (simp only [aop, St.eval, List.getD_cons_zero, List.getD_cons_succ, aBin, binI, aLen, aBuiltin, List.map_cons, List.map_nil, true_and, us9]; (all_goals fail_if_success show False))
    all_goals first
      | exact Out.flat' (congrArg Value.bool (by rw [Bool.true_and]; exact decide_eq_decide.2 (by omega)))
      | fail
end Go.Proofs.YtneapbfomhalpaaGreatDoor.T
