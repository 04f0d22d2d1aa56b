/- Walks of values, part 8: the year of a day. -/
import Derived.Test.YtneapbfomhalpaaGreatDoorQVG
set_option linter.unusedVariables false
set_option maxRecDepth 100000
set_option maxHeartbeats 4000000
set_option linter.unusedSimpArgs false
namespace Go.Pv
/-- The year that a day lies in. -/
structure YearOf (n y : Int) : Prop where
  lo : 1 ≤ y
  hi : y ≤ 9999
  before : beforeD y < n
  upto : n ≤ beforeD (y + 1)
theorem before_le {a b : Int} (h : a ≤ b) : beforeD a ≤ beforeD b := by
  rcases Int.lt_or_eq_of_le h with h | h
  · exact Int.le_of_lt (before_mono h)
  · rw [h]; exact Int.le_refl _
theorem YearOf.lt {n y m : Int} (h : YearOf n y) : beforeD m < n ↔ m ≤ y := by
  constructor
  · intro h1
    rcases Int.lt_or_le y m with h2 | h2
    · have := before_le (a := y + 1) (b := m) (by omega)
      have := h.upto
      omega
    · exact h2
  · intro h1
    have := before_le h1
    have := h.before
    omega
theorem yearOf_ex {n : Int} (h1 : 1 ≤ n) (h2 : n ≤ 3652059) : ∃ y, YearOf n y := by
  have key : ∀ k : Nat, k ≤ 9999 → n ≤ beforeD (k + 1) → ∃ y, YearOf n y := by
    intro k
    induction k with
    | zero => intro _ h; exfalso; unfold beforeD at h; omega
    | succ k ih =>
      intro hk h
      by_cases hb : n ≤ beforeD (k + 1)
      · exact ih (by omega) hb
      · exact ⟨(k + 1 : Nat), by omega, by omega, by push_cast; omega, h⟩
  refine key 9999 (Nat.le_refl _) ?_
  unfold beforeD
  omega
end Go.Pv
namespace Go.Proofs.YtneapbfomhalpaaGreatDoor.T
open Go Go.Pv Go.Proofs.YtneapbfomhalpaaGreatDoor.EF
theorem l3Year_ok (n y : Int) (h : YearOf n y) : Ok Tryz.prog 65 [vI n] (vI y) [] := by
  have h1 := h.lo
  have h2 := h.hi
  refine Ok.walk Tryz.func65 rfl ?_; simp only [startSt, show Tryz.f65.ntmps = 21 from rfl, List.length_cons, List.length_nil, Nat.reduceAdd, Nat.reduceSub, List.replicate, List.cons_append, List.nil_append]
  repeat' first | (with_reducible first | refine W.seq ?_ | refine W.region ?_ | refine W.block ?_ | refine Seq.normal ?_ | refine aops_nil ?_) | ((with_reducible refine aops_run ?_ (fun K' hK' => ?_)); exact rfl) | ((with_reducible refine hK' _ _ ?_); clear hK'; dsimp only [put, List.set]) | (simp only [aop, St.eval]; (all_goals fail_if_success show False))
  refine W.loop (fun x : Int × Int => ⟨[vI n, .any, .any, vI x.1, vI x.2, .any, .any, .any, .any, .any, .any, .any, .any, .any, .any, .any, .any, .any, .any, .any, .any], noMem⟩) (fun x => 1 ≤ x.1 ∧ x.1 < x.2 ∧ x.2 ≤ 10000 ∧ x.1 ≤ y ∧ y < x.2) (fun x => (x.2 - x.1).toNat) (1, 10000) ?wk0 ⟨by decide, by decide, by decide, h1, by dsimp only; omega⟩ (fun x hx => ?_)
  case wk0 => exact Weak.flat rfl (by simp [All2, vw, vwA, vwC, clean_b])
  obtain ⟨lo, hi⟩ := x
  dsimp only at hx ⊢
  obtain ⟨a1, a2, a3, a4, a5⟩ := hx
  have w1 : IntKind.i64.wrap (hi - lo) = hi - lo := wrap_id (by omega) (by omega)
  have w2 : IntKind.i64.wrap (lo + hi) = lo + hi := wrap_id (by omega) (by omega)
  have w3 : IntKind.i64.wrap ((lo + hi).tdiv 2) = (lo + hi) / 2 := by rw [Int.tdiv_eq_ediv_of_nonneg (by omega), wrap_id (by omega) (by omega)]
  obtain ⟨m, hm⟩ : ∃ m, m = (lo + hi) / 2 := ⟨_, rfl⟩
  rw [← hm] at w3
  by_cases hd : 1 < hi - lo
  · have hb := l3Before_ok m (by omega) (by omega)
    have hlt := h.lt (m := m)
    generalize beforeD m = bm at hb hlt
    repeat' first | (with_reducible first | refine W.seq ?_ | refine W.region ?_ | refine W_skip ?_ | refine W.block ?_ | refine Seq.normal ?_ | refine Blk.normal ?_ | refine aops_nil ?_) | ((with_reducible apply aops_callF); (case hg => exact rfl); (case ho => exact rfl); (case hc => exact rfl); (case hf => exact rfl); (case hok => first | exact hb); (case hcal => first | assumption | kernel_rfl); (case hcl => (with_reducible simp only [List.map_cons, List.map_nil, List.forall_mem_cons, St.eval, List.getD_cons_zero, List.getD_cons_succ]); (repeat' with_reducible first | exact Cln.b _ | exact cln_strs | exact cln_wts | exact cln_nil | refine And.intro ?_ ?_ | refine Cln.agg ?_ | rw [List.forall_mem_cons])); (case' h => dsimp only [put, List.set])) | ((with_reducible refine aops_run ?_ (fun K' hK' => ?_)); exact rfl) | ((with_reducible refine hK' _ _ ?_); clear hK'; dsimp only [put, List.set]) | ((with_reducible apply W_cond); (case hc => exact rfl); (case' h2 => (intro hc; replace hc := of_decide_eq_false hc)); (case' h1 => (intro hc; replace hc := of_decide_eq_true hc)); all_goals try (exfalso; first | omega | exact hc rfl | exact hc trivial | exact Bool.noConfusion hc)) | (with_reducible first | refine And.intro ?_ ?_) | ((with_reducible first | show (_ : Int) < _ | show (_ : Int) ≤ _ | show (_ : Int) ≠ _ | show (_ : Nat) < _ | show (_ : Nat) ≤ _ | show (_ : Nat) ≠ _); omega) | (simp only [aop, St.eval, List.getD_cons_zero, List.getD_cons_succ, aBin, binI, true_and, w1, w2, w3]; (all_goals fail_if_success show False))
    · refine Rnd.normal (m, hi) ⟨by dsimp only; omega, by dsimp only; omega, by dsimp only; omega, by dsimp only; exact hlt.1 hc, by dsimp only; omega⟩ (by dsimp only; omega) ?_
      exact Weak.flat rfl (by simp [All2, vw, vwA, vwC, clean_b])
    · have : ¬ m ≤ y := fun e => hc (hlt.2 e)
      refine Rnd.normal (lo, m) ⟨by dsimp only; omega, by dsimp only; omega, by dsimp only; omega, by dsimp only; omega, by dsimp only; omega⟩ (by dsimp only; omega) ?_
      exact Weak.flat rfl (by simp [All2, vw, vwA, vwC, clean_b])
  · repeat' first | (with_reducible first | refine W.seq ?_ | refine W.region ?_ | refine W_ret ?_ | refine W_exit ?_ | refine Seq.normal ?_ | refine Seq.exit ?_ | refine Blk.same ?_ | refine Rnd.exit ?_ | refine aops_nil ?_) | ((with_reducible refine aops_run ?_ (fun K' hK' => ?_)); exact rfl) | ((with_reducible refine hK' _ _ ?_); clear hK'; dsimp only [put, List.set]) | ((with_reducible apply W_cond); (case hc => exact rfl); (case' h2 => (intro hc; replace hc := of_decide_eq_false hc)); (case' h1 => (intro hc; replace hc := of_decide_eq_true hc)); all_goals try (exfalso; first | omega | exact hc rfl | exact hc trivial | exact Bool.noConfusion hc)) | ((with_reducible first | refine Ends.ret ?_ | refine Ends.normal ?_); simp only [aRes, show Tryz.f65.results.toList = [.tmp 2] from rfl, aRess, aResV, oneOf, List.getD_cons_zero, List.getD_cons_succ]) | (simp only [aop, St.eval, List.getD_cons_zero, List.getD_cons_succ, aBin, binI, true_and, w1]; (all_goals fail_if_success show False))
    all_goals exact Out.flat' (congrArg (Value.int .i64) (by omega))
end Go.Proofs.YtneapbfomhalpaaGreatDoor.T
