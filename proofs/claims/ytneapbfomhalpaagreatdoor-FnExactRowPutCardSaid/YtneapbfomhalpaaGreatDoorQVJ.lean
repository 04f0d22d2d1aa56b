/- Walks of values, part 10: year, month and day of a day. -/
import Derived.Test.YtneapbfomhalpaaGreatDoorQVI
set_option linter.unusedVariables false
set_option maxRecDepth 100000
set_option maxHeartbeats 4000000
set_option linter.unusedSimpArgs false
namespace Go.Proofs.YtneapbfomhalpaaGreatDoor.T
open Go Go.Pv Go.Proofs.YtneapbfomhalpaaGreatDoor.EF
theorem DayParts_no (n : Int) (h : ¬ (1 ≤ n ∧ n ≤ 3652059)) : Ok Tryz.prog 94 [vI n] (.tup [vI 0, vI 0, vI 0, vB false]) [] := by
  have hd := isDay_ok n
  rw [decide_eq_false h] at hd
  refine Ok.walk Tryz.func94 rfl ?_; simp only [startSt, show Tryz.f94.ntmps = 48 from rfl, List.length_cons, List.length_nil, Nat.reduceAdd, Nat.reduceSub, List.replicate, List.cons_append, List.nil_append]
  repeat' first | (with_reducible first | refine W.seq ?_ | refine W.region ?_ | refine W_ret ?_ | refine Seq.normal ?_ | refine Seq.ret ?_ | refine aops_nil ?_) | ((with_reducible apply aops_callF); (case hg => exact rfl); (case ho => exact rfl); (case hc => exact rfl); (case hf => exact rfl); (case hok => first | exact hd); (case hcal => first | assumption | kernel_rfl); (case hcl => (with_reducible simp only [List.map_cons, List.map_nil, List.forall_mem_cons, St.eval, List.getD_cons_zero, List.getD_cons_succ]); (repeat' with_reducible first | exact Cln.b _ | exact cln_strs | exact cln_wts | exact cln_nil | refine And.intro ?_ ?_ | refine Cln.agg ?_ | rw [List.forall_mem_cons])); (case' h => dsimp only [put, List.set])) | ((with_reducible refine aops_run ?_ (fun K' hK' => ?_)); exact rfl) | ((with_reducible refine hK' _ _ ?_); clear hK'; dsimp only [put, List.set]) | ((with_reducible apply W_cond); (case hc => exact rfl); (case' h2 => (intro hc; replace hc := nbF hc)); (case' h1 => (intro hc; replace hc := nbT hc)); all_goals try (exfalso; first | omega | exact hc rfl | exact hc trivial | exact Bool.noConfusion hc)) | ((with_reducible first | refine Ends.ret ?_ | refine Ends.normal ?_); simp only [aRes, show Tryz.f94.results.toList = [.tmp 2, .tmp 3, .tmp 4, .tmp 5] from rfl, aRess, aResV, oneOf, List.getD_cons_zero, List.getD_cons_succ]) | (simp only [aop, St.eval, List.getD_cons_zero, List.getD_cons_succ, aUn]; (all_goals fail_if_success show False))
  all_goals exact Weak.intro [] (by simp) (by simp) (by simp) rfl (by simp [All2, vw, vwA, vwC, clean_b]) (fun _ h => h.elim)
theorem DayParts_ok (n y : Int) (m : Nat) (hn : 1 ≤ n ∧ n ≤ 3652059) (hy : YearOf n y) (h : MonthOf n y m) : Ok Tryz.prog 94 [vI n] (.tup [vI y, vI m, vI (n - beforeD y - monD y (m - 1)), vB true]) [] := by
  have hd := isDay_ok n
  rw [decide_eq_true hn] at hd
  have h1 := hy.lo
  have h2 := hy.hi
  have h3 := h.lo
  have h4 := h.hi
  refine Ok.walk Tryz.func94 rfl ?_; simp only [startSt, show Tryz.f94.ntmps = 48 from rfl, List.length_cons, List.length_nil, Nat.reduceAdd, Nat.reduceSub, List.replicate, List.cons_append, List.nil_append]
  repeat' first | (with_reducible first | refine W.seq ?_ | refine W.region ?_ | refine W_skip ?_ | refine W.block ?_ | refine Seq.normal ?_ | refine aops_nil ?_) | ((with_reducible apply aops_callF); (case hg => exact rfl); (case ho => exact rfl); (case hc => exact rfl); (case hf => exact rfl); (case hok => first | exact hd); (case hcal => first | assumption | kernel_rfl); (case hcl => (with_reducible simp only [List.map_cons, List.map_nil, List.forall_mem_cons, St.eval, List.getD_cons_zero, List.getD_cons_succ]); (repeat' with_reducible first | exact Cln.b _ | exact cln_strs | exact cln_wts | exact cln_nil | refine And.intro ?_ ?_ | refine Cln.agg ?_ | rw [List.forall_mem_cons])); (case' h => dsimp only [put, List.set])) | ((with_reducible refine aops_run ?_ (fun K' hK' => ?_)); exact rfl) | ((with_reducible refine hK' _ _ ?_); clear hK'; dsimp only [put, List.set]) | ((with_reducible apply W_cond); (case hc => exact rfl); (case' h2 => (intro hc; replace hc := nbF hc)); (case' h1 => (intro hc; replace hc := nbT hc)); all_goals try (exfalso; first | omega | exact hc rfl | exact hc trivial | exact Bool.noConfusion hc)) | (simp only [aop, St.eval, List.getD_cons_zero, List.getD_cons_succ, aUn]; (all_goals fail_if_success show False))
  refine W.loop (fun x : Int × Int => ⟨[vI n, .any, .any, .any, .any, .any, vI x.1, vI x.2, .any, .any, .any, .any, .any, .any, .any, .any, .any, .any, .any, .any, .any, .any, .any, .any, .any, .any, .any, .any, .any, .any, .any, .any, .any, .any, .any, .any, .any, .any, .any, .any, .any, .any, .any, .any, .any, .any, .any, .any], noMem⟩) (fun x => 1 ≤ x.1 ∧ x.1 ≤ x.2 ∧ x.2 ≤ 9999 ∧ x.1 ≤ y ∧ y ≤ x.2) (fun x => (x.2 - x.1).toNat) (1, 9999) ?wk0 ⟨by decide, by decide, by decide, h1, h2⟩ (fun x hx => ?_)
  case wk0 => exact Weak.flat rfl (by simp [All2, vw, vwA, vwC, clean_b])
  obtain ⟨lo, hi⟩ := x
  dsimp only at hx ⊢
  obtain ⟨a1, a2, a3, a4, a5⟩ := hx
  have w1 : IntKind.i64.wrap (lo + hi) = lo + hi := wrap_id (by omega) (by omega)
  have w2 : IntKind.i64.wrap (lo + hi + 1) = lo + hi + 1 := wrap_id (by omega) (by omega)
  have w3 : IntKind.i64.wrap ((lo + hi + 1).tdiv 2) = (lo + hi + 1) / 2 := by rw [Int.tdiv_eq_ediv_of_nonneg (by omega), wrap_id (by omega) (by omega)]
  by_cases hlt : lo < hi
  · obtain ⟨mi, hmi⟩ : ∃ mi, mi = (lo + hi + 1) / 2 := ⟨_, rfl⟩
    rw [← hmi] at w3
    have hb := ahead_ok mi (by omega) (by omega)
    have hiff := hy.lt (m := mi)
    have w4 : IntKind.i64.wrap (mi - 1) = mi - 1 := wrap_id (by omega) (by omega)
    generalize beforeD mi = bm at hb hiff
    repeat' first | (with_reducible first | refine W.seq ?_ | refine W.region ?_ | refine W_skip ?_ | refine W.block ?_ | refine Seq.normal ?_ | refine Blk.normal ?_ | refine aops_nil ?_) | ((with_reducible apply aops_callF); (case hg => exact rfl); (case ho => exact rfl); (case hc => exact rfl); (case hf => exact rfl); (case hok => first | exact hb); (case hcal => first | assumption | kernel_rfl); (case hcl => (with_reducible simp only [List.map_cons, List.map_nil, List.forall_mem_cons, St.eval, List.getD_cons_zero, List.getD_cons_succ]); (repeat' with_reducible first | exact Cln.b _ | exact cln_strs | exact cln_wts | exact cln_nil | refine And.intro ?_ ?_ | refine Cln.agg ?_ | rw [List.forall_mem_cons])); (case' h => dsimp only [put, List.set])) | ((with_reducible refine aops_run ?_ (fun K' hK' => ?_)); exact rfl) | ((with_reducible refine hK' _ _ ?_); clear hK'; dsimp only [put, List.set]) | ((with_reducible apply W_cond); (case hc => exact rfl); (case' h2 => (intro hc; replace hc := of_decide_eq_false hc)); (case' h1 => (intro hc; replace hc := of_decide_eq_true hc)); all_goals try (exfalso; first | omega | exact hc rfl | exact hc trivial | exact Bool.noConfusion hc)) | (with_reducible first | refine And.intro ?_ ?_) | ((with_reducible first | show (_ : Int) < _ | show (_ : Int) ≤ _ | show (_ : Int) ≠ _ | show (_ : Nat) < _ | show (_ : Nat) ≤ _ | show (_ : Nat) ≠ _); omega) | (simp only [aop, St.eval, List.getD_cons_zero, List.getD_cons_succ, aBin, binI, true_and, w1, w2, w3, w4]; (all_goals fail_if_success show False))
    · refine Rnd.normal (mi, hi) ⟨by dsimp only; omega, by dsimp only; omega, by dsimp only; omega, by dsimp only; exact hiff.1 hc, by dsimp only; omega⟩ (by dsimp only; omega) ?_
      exact Weak.flat rfl (by simp [All2, vw, vwA, vwC, clean_b])
    · have : ¬ mi ≤ y := fun e => hc (hiff.2 e)
      refine Rnd.normal (lo, mi - 1) ⟨by dsimp only; omega, by dsimp only; omega, by dsimp only; omega, by dsimp only; omega, by dsimp only; omega⟩ (by dsimp only; omega) ?_
      exact Weak.flat rfl (by simp [All2, vw, vwA, vwC, clean_b])
  · obtain rfl : lo = y := by omega
    have hb := ahead_ok lo h1 (by omega)
    have bb := before_in h1 (by omega)
    have hbf := h.before
    have hup := h.upto
    generalize hbe : beforeD lo = by_ at hb bb hbf hup ⊢
    have w0 : IntKind.i64.wrap (n - by_) = n - by_ := wrap_id (by omega) (by omega)
    repeat' first | (with_reducible first | refine W.seq ?_ | refine W.region ?_ | refine W_exit ?_ | refine W.block ?_ | refine Seq.normal ?_ | refine Seq.exit ?_ | refine Blk.same ?_ | refine Rnd.exit ?_ | refine aops_nil ?_) | ((with_reducible apply aops_callF); (case hg => exact rfl); (case ho => exact rfl); (case hc => exact rfl); (case hf => exact rfl); (case hok => first | exact hb); (case hcal => first | assumption | kernel_rfl); (case hcl => (with_reducible simp only [List.map_cons, List.map_nil, List.forall_mem_cons, St.eval, List.getD_cons_zero, List.getD_cons_succ]); (repeat' with_reducible first | exact Cln.b _ | exact cln_strs | exact cln_wts | exact cln_nil | refine And.intro ?_ ?_ | refine Cln.agg ?_ | rw [List.forall_mem_cons])); (case' h => dsimp only [put, List.set])) | ((with_reducible refine aops_run ?_ (fun K' hK' => ?_)); exact rfl) | ((with_reducible refine hK' _ _ ?_); clear hK'; dsimp only [put, List.set]) | ((with_reducible apply W_cond); (case hc => exact rfl); (case' h2 => (intro hc; replace hc := of_decide_eq_false hc)); (case' h1 => (intro hc; replace hc := of_decide_eq_true hc)); all_goals try (exfalso; first | omega | exact hc rfl | exact hc trivial | exact Bool.noConfusion hc)) | (simp only [aop, St.eval, List.getD_cons_zero, List.getD_cons_succ, aBin, binI, true_and, w0]; (all_goals fail_if_success show False))
    refine W.loop (fun k : Nat => ⟨[.any, .any, .any, .any, .any, .any, vI lo, .any, .any, vI (n - by_ - monD lo k), vI ((k + 1 : Nat) : Int), .any, .any, .any, .any, .any, .any, .any, .any, .any, .any, .any, .any, .any, .any, .any, .any, .any, .any, .any, .any, .any, .any, .any, .any, .any, .any, .any, .any, .any, .any, .any, .any, .any, .any, .any, .any, .any], noMem⟩) (fun k => k + 1 ≤ m) (fun k => m - k) 0 ?wk1 (by omega) (fun k hk => ?_)
    case wk1 => rw [show n - by_ - monD lo 0 = n - by_ by rw [monD]; omega]; exact Weak.flat rfl (by simp [All2, vw, vwA, vwC, clean_b])
    have hl := DayLast_ok lo ((k + 1 : Nat) : Int) ⟨h1, h2⟩ (by omega)
    have hin := lastD_in lo ((k + 1 : Nat) : Int)
    have hmk := monD_in lo k
    have e1 : monD lo (k + 1) = monD lo k + lastD lo ((k + 1 : Nat) : Int) := rfl
    by_cases hkm : k + 1 < m
    · have hle := monD_le lo (a := k + 1) (b := m - 1) (by omega)
      rw [e1] at hle
      have e2 : n - by_ - monD lo k - lastD lo ((k + 1 : Nat) : Int) = n - by_ - monD lo (k + 1) := by rw [e1]; omega
      generalize lastD lo ((k + 1 : Nat) : Int) = ld at hl hin hle e2
      have w5 : IntKind.i64.wrap (n - by_ - monD lo k - ld) = n - by_ - monD lo k - ld := wrap_id (by omega) (by omega)
      have w6 : IntKind.i64.wrap (((k + 1 : Nat) : Int) + 1) = ((k + 1 + 1 : Nat) : Int) := by rw [wrap_id (by omega) (by omega)]; omega
      generalize hz : n - by_ - monD lo k = z at w5 e2 hle ⊢
      generalize hq : ((k + 1 : Nat) : Int) = q at hl w6 ⊢
      repeat' first | (with_reducible first | refine W.seq ?_ | refine W.region ?_ | refine W_skip ?_ | refine W.block ?_ | refine Seq.normal ?_ | refine Blk.normal ?_ | refine aops_nil ?_) | ((with_reducible apply aops_callF); (case hg => exact rfl); (case ho => exact rfl); (case hc => exact rfl); (case hf => exact rfl); (case hok => first | exact hl); (case hcal => first | assumption | kernel_rfl); (case hcl => (with_reducible simp only [List.map_cons, List.map_nil, List.forall_mem_cons, St.eval, List.getD_cons_zero, List.getD_cons_succ]); (repeat' with_reducible first | exact Cln.b _ | exact cln_strs | exact cln_wts | exact cln_nil | refine And.intro ?_ ?_ | refine Cln.agg ?_ | rw [List.forall_mem_cons])); (case' h => dsimp only [put, List.set])) | ((with_reducible refine aops_run ?_ (fun K' hK' => ?_)); exact rfl) | ((with_reducible refine hK' _ _ ?_); clear hK'; dsimp only [put, List.set]) | ((with_reducible apply W_cond); (case hc => exact rfl); (case' h2 => (intro hc; replace hc := of_decide_eq_false hc)); (case' h1 => (intro hc; replace hc := of_decide_eq_true hc)); all_goals try (exfalso; first | omega | exact hc rfl | exact hc trivial | exact Bool.noConfusion hc)) | (simp only [aop, St.eval, List.getD_cons_zero, List.getD_cons_succ, aBin, binI, true_and, w5, w6]; (all_goals fail_if_success show False))
      refine Rnd.normal (k + 1) (by omega) (by omega) ?_
      rw [← e2]
      exact Weak.flat rfl (by simp [All2, vw, vwA, vwC, clean_b])
    · obtain rfl : m = k + 1 := by omega
      rw [e1] at hup
      generalize lastD lo ((k + 1 : Nat) : Int) = ld at hl hin hup
      rw [Nat.add_sub_cancel]
      generalize hz : n - by_ - monD lo k = z
      generalize hq : ((k + 1 : Nat) : Int) = q at hl ⊢
      repeat' first | (with_reducible first | refine W.seq ?_ | refine W.region ?_ | refine W_ret ?_ | refine W_exit ?_ | refine Seq.normal ?_ | refine Seq.exit ?_ | refine Blk.same ?_ | refine Rnd.exit ?_ | refine aops_nil ?_) | ((with_reducible apply aops_callF); (case hg => exact rfl); (case ho => exact rfl); (case hc => exact rfl); (case hf => exact rfl); (case hok => first | exact hl); (case hcal => first | assumption | kernel_rfl); (case hcl => (with_reducible simp only [List.map_cons, List.map_nil, List.forall_mem_cons, St.eval, List.getD_cons_zero, List.getD_cons_succ]); (repeat' with_reducible first | exact Cln.b _ | exact cln_strs | exact cln_wts | exact cln_nil | refine And.intro ?_ ?_ | refine Cln.agg ?_ | rw [List.forall_mem_cons])); (case' h => dsimp only [put, List.set])) | ((with_reducible refine aops_run ?_ (fun K' hK' => ?_)); exact rfl) | ((with_reducible refine hK' _ _ ?_); clear hK'; dsimp only [put, List.set]) | ((with_reducible apply W_cond); (case hc => exact rfl); (case' h2 => (intro hc; replace hc := of_decide_eq_false hc)); (case' h1 => (intro hc; replace hc := of_decide_eq_true hc)); all_goals try (exfalso; first | omega | exact hc rfl | exact hc trivial | exact Bool.noConfusion hc)) | ((with_reducible first | refine Ends.ret ?_ | refine Ends.normal ?_); simp only [aRes, show Tryz.f94.results.toList = [.tmp 2, .tmp 3, .tmp 4, .tmp 5] from rfl, aRess, aResV, oneOf, List.getD_cons_zero, List.getD_cons_succ]) | (simp only [aop, St.eval, List.getD_cons_zero, List.getD_cons_succ, aBin, binI, true_and]; (all_goals fail_if_success show False))
      all_goals exact Weak.intro [] (by simp) (by simp) (by simp) rfl (by simp [All2, vw, vwA, vwC, clean_b]) (fun _ h => h.elim)
end Go.Proofs.YtneapbfomhalpaaGreatDoor.T
