/- Walks of values, part 9: the month and the day of a day. -/
import Derived.Test.YtneapbfomhalpaaGreatDoorQVH
set_option linter.unusedVariables false
set_option maxRecDepth 100000
set_option maxHeartbeats 4000000
set_option linter.unusedSimpArgs false
namespace Go.Pv
/-- The days of a year's first months. -/
def monD (y : Int) : Nat → Int
  | 0 => 0
  | k + 1 => monD y k + lastD y ((k + 1 : Nat) : Int)
theorem monD_le (y : Int) {a b : Nat} (h : a ≤ b) : monD y a ≤ monD y b := by
  induction b with
  | zero => rw [Nat.le_zero.1 h]; exact Int.le_refl _
  | succ b ih =>
    rcases Nat.lt_or_ge a (b + 1) with h1 | h1
    · have := ih (by omega)
      have := lastD_in y ((b + 1 : Nat) : Int)
      rw [monD]
      omega
    · rw [show a = b + 1 by omega]; exact Int.le_refl _
theorem monD_in (y : Int) : ∀ k : Nat, 0 ≤ monD y k ∧ monD y k ≤ 31 * k
  | 0 => ⟨Int.le_refl _, by rw [monD]; omega⟩
  | k + 1 => by
    have := monD_in y k
    have := lastD_in y ((k + 1 : Nat) : Int)
    rw [monD]
    omega
theorem monD_12 (y : Int) : monD y 12 = beforeD (y + 1) - beforeD y := by
  have e : monD y 12 = 337 + lastD y 2 := by
    simp only [monD, lastD]
    simp
    omega
  rw [e]
  unfold lastD leapB beforeD
  rw [if_pos rfl]
  by_cases a : y % 4 = 0 <;> by_cases b : y % 100 = 0 <;> by_cases c : y % 400 = 0 <;> simp [a, b, c] <;> omega
/-- The month that a day lies in. -/
structure MonthOf (n y : Int) (m : Nat) : Prop where
  lo : 1 ≤ m
  hi : m ≤ 12
  before : monD y (m - 1) < n - beforeD y
  upto : n - beforeD y ≤ monD y m
theorem monthOf_ex {n y : Int} (h : YearOf n y) : ∃ m, MonthOf n y m := by
  have key : ∀ k : Nat, k ≤ 12 → n - beforeD y ≤ monD y k → ∃ m, MonthOf n y m := by
    intro k
    induction k with
    | zero => intro _ h1; exfalso; have := h.before; unfold monD at h1; omega
    | succ k ih =>
      intro hk h1
      by_cases hb : n - beforeD y ≤ monD y k
      · exact ih (by omega) hb
      · exact ⟨k + 1, by omega, hk, by rw [Nat.add_sub_cancel]; omega, h1⟩
  refine key 12 (Nat.le_refl _) ?_
  have := h.upto
  rw [monD_12]
  omega
end Go.Pv
namespace Go.Proofs.YtneapbfomhalpaaGreatDoor.T
open Go Go.Pv Go.Proofs.YtneapbfomhalpaaGreatDoor.EF
theorem l3Month_ok (n y : Int) (m : Nat) (hy : YearOf n y) (h : MonthOf n y m) : Ok Tryz.prog 67 [vI n, vI y] (vI m) [] := by
  have h1 := hy.lo
  have h2 := hy.hi
  have h3 := h.lo
  have h4 := h.hi
  have hb := l3Before_ok y h1 (by omega)
  have bb := before_in h1 (by omega)
  have bu := hy.upto
  have bl := hy.before
  have b1 := before_in (y := y + 1) (by omega) (by omega)
  have hbf := h.before
  have hup := h.upto
  generalize hbe : beforeD y = by_ at hb bb hbf hup bl
  have w0 : IntKind.i64.wrap (n - by_) = n - by_ := wrap_id (by omega) (by omega)
  refine Ok.walk Tryz.func67 rfl ?_; simp only [startSt, show Tryz.f67.ntmps = 24 from rfl, List.length_cons, List.length_nil, Nat.reduceAdd, Nat.reduceSub, List.replicate, List.cons_append, List.nil_append]
  repeat' first | (with_reducible first | refine W.seq ?_ | refine W.region ?_ | refine W.block ?_ | refine Seq.normal ?_ | refine aops_nil ?_) | ((with_reducible apply aops_callF); (case hg => exact rfl); (case ho => exact rfl); (case hc => exact rfl); (case hf => exact rfl); (case hok => first | exact hb); (case hcal => first | assumption | kernel_rfl); (case hcl => (with_reducible simp only [List.map_cons, List.map_nil, List.forall_mem_cons, St.eval, List.getD_cons_zero, List.getD_cons_succ]); (repeat' with_reducible first | exact Cln.b _ | exact cln_strs | exact cln_wts | exact cln_nil | refine And.intro ?_ ?_ | refine Cln.agg ?_ | rw [List.forall_mem_cons])); (case' h => dsimp only [put, List.set])) | ((with_reducible refine aops_run ?_ (fun K' hK' => ?_)); exact rfl) | ((with_reducible refine hK' _ _ ?_); clear hK'; dsimp only [put, List.set]) | (simp only [aop, St.eval, List.getD_cons_zero, List.getD_cons_succ, aBin, binI, true_and, w0]; (all_goals fail_if_success show False))
  refine W.loop (fun k : Nat => ⟨[vI n, vI y, .any, .any, .any, vI ((k + 1 : Nat) : Int), vI (n - by_ - monD y k), .any, .any, .any, .any, .any, .any, .any, .any, .any, .any, .any, .any, .any, .any, .any, .any, .any], noMem⟩) (fun k => k + 1 ≤ m) (fun k => m - k) 0 ?wk0 (by omega) (fun k hk => ?_)
  case wk0 => rw [show n - by_ - monD y 0 = n - by_ by rw [monD]; omega]; exact Weak.flat rfl (by simp [All2, vw, vwA, vwC, clean_b])
  have hl := l3Last_ok y ((k + 1 : Nat) : Int) (by omega)
  have hin := lastD_in y ((k + 1 : Nat) : Int)
  have hmk := monD_in y k
  have e1 : monD y (k + 1) = monD y k + lastD y ((k + 1 : Nat) : Int) := rfl
  by_cases hlt : k + 1 < m
  · have hle := monD_le y (a := k + 1) (b := m - 1) (by omega)
    rw [e1] at hle
    have e2 : n - by_ - monD y k - lastD y ((k + 1 : Nat) : Int) = n - by_ - monD y (k + 1) := by rw [e1]; omega
    generalize lastD y ((k + 1 : Nat) : Int) = ld at hl hin hle e2
    have w1 : IntKind.i64.wrap (n - by_ - monD y k - ld) = n - by_ - monD y k - ld := wrap_id (by omega) (by omega)
    have w2 : IntKind.i64.wrap (((k + 1 : Nat) : Int) + 1) = ((k + 1 + 1 : Nat) : Int) := by rw [wrap_id (by omega) (by omega)]; omega
    generalize hz : n - by_ - monD y k = z at w1 e2 hle ⊢
    generalize hq : ((k + 1 : Nat) : Int) = q at hl w2 ⊢
    repeat' first | (with_reducible first | refine W.seq ?_ | refine W.region ?_ | refine W_skip ?_ | refine W.block ?_ | refine Seq.normal ?_ | refine Blk.normal ?_ | refine aops_nil ?_) | ((with_reducible apply aops_callF); (case hg => exact rfl); (case ho => exact rfl); (case hc => exact rfl); (case hf => exact rfl); (case hok => first | exact hl); (case hcal => first | assumption | kernel_rfl); (case hcl => (with_reducible simp only [List.map_cons, List.map_nil, List.forall_mem_cons, St.eval, List.getD_cons_zero, List.getD_cons_succ]); (repeat' with_reducible first | exact Cln.b _ | exact cln_strs | exact cln_wts | exact cln_nil | refine And.intro ?_ ?_ | refine Cln.agg ?_ | rw [List.forall_mem_cons])); (case' h => dsimp only [put, List.set])) | ((with_reducible refine aops_run ?_ (fun K' hK' => ?_)); exact rfl) | ((with_reducible refine hK' _ _ ?_); clear hK'; dsimp only [put, List.set]) | ((with_reducible apply W_cond); (case hc => exact rfl); (case' h2 => (intro hc; replace hc := of_decide_eq_false hc)); (case' h1 => (intro hc; replace hc := of_decide_eq_true hc)); all_goals try (exfalso; first | omega | exact hc rfl | exact hc trivial | exact Bool.noConfusion hc)) | (simp only [aop, St.eval, List.getD_cons_zero, List.getD_cons_succ, aBin, binI, true_and, w1, w2]; (all_goals fail_if_success show False))
    refine Rnd.normal (k + 1) (by omega) (by omega) ?_
    rw [← e2]
    exact Weak.flat rfl (by simp [All2, vw, vwA, vwC, clean_b])
  · obtain rfl : m = k + 1 := by omega
    rw [e1] at hup
    generalize lastD y ((k + 1 : Nat) : Int) = ld at hl hin hup
    generalize hz : n - by_ - monD y k = z
    generalize hq : ((k + 1 : Nat) : Int) = q at hl ⊢
    repeat' first | (with_reducible first | refine W.seq ?_ | refine W.region ?_ | refine W_ret ?_ | refine W_exit ?_ | refine Seq.normal ?_ | refine Seq.exit ?_ | refine Blk.same ?_ | refine Rnd.exit ?_ | refine aops_nil ?_) | ((with_reducible apply aops_callF); (case hg => exact rfl); (case ho => exact rfl); (case hc => exact rfl); (case hf => exact rfl); (case hok => first | exact hl); (case hcal => first | assumption | kernel_rfl); (case hcl => (with_reducible simp only [List.map_cons, List.map_nil, List.forall_mem_cons, St.eval, List.getD_cons_zero, List.getD_cons_succ]); (repeat' with_reducible first | exact Cln.b _ | exact cln_strs | exact cln_wts | exact cln_nil | refine And.intro ?_ ?_ | refine Cln.agg ?_ | rw [List.forall_mem_cons])); (case' h => dsimp only [put, List.set])) | ((with_reducible refine aops_run ?_ (fun K' hK' => ?_)); exact rfl) | ((with_reducible refine hK' _ _ ?_); clear hK'; dsimp only [put, List.set]) | ((with_reducible apply W_cond); (case hc => exact rfl); (case' h2 => (intro hc; replace hc := of_decide_eq_false hc)); (case' h1 => (intro hc; replace hc := of_decide_eq_true hc)); all_goals try (exfalso; first | omega | exact hc rfl | exact hc trivial | exact Bool.noConfusion hc)) | ((with_reducible first | refine Ends.ret ?_ | refine Ends.normal ?_); simp only [aRes, show Tryz.f67.results.toList = [.tmp 4] from rfl, aRess, aResV, oneOf, List.getD_cons_zero, List.getD_cons_succ]) | (simp only [aop, St.eval, List.getD_cons_zero, List.getD_cons_succ, aBin, binI, true_and]; (all_goals fail_if_success show False))
    all_goals exact Out.flat' rfl
theorem l3Of_ok (y : Int) (m : Nat) (d : Int) (h1 : 1 ≤ y ∧ y ≤ 9999) (h2 : 1 ≤ m ∧ m ≤ 12) (h3 : 0 ≤ d ∧ d ≤ 1000) : Ok Tryz.prog 88 [vI y, vI m, vI d] (vI (beforeD y + d + monD y (m - 1))) [] := by
  have hb := l3Before_ok y h1.1 (by omega)
  have bb := before_in h1.1 (by omega)
  generalize beforeD y = by_ at hb bb ⊢
  have w0 : IntKind.i64.wrap (by_ + d) = by_ + d := wrap_id (by omega) (by omega)
  refine Ok.walk Tryz.func88 rfl ?_; simp only [startSt, show Tryz.f88.ntmps = 24 from rfl, List.length_cons, List.length_nil, Nat.reduceAdd, Nat.reduceSub, List.replicate, List.cons_append, List.nil_append]
  repeat' first | (with_reducible first | refine W.seq ?_ | refine W.region ?_ | refine W.block ?_ | refine Seq.normal ?_ | refine aops_nil ?_) | ((with_reducible apply aops_callF); (case hg => exact rfl); (case ho => exact rfl); (case hc => exact rfl); (case hf => exact rfl); (case hok => first | exact hb); (case hcal => first | assumption | kernel_rfl); (case hcl => (with_reducible simp only [List.map_cons, List.map_nil, List.forall_mem_cons, St.eval, List.getD_cons_zero, List.getD_cons_succ]); (repeat' with_reducible first | exact Cln.b _ | exact cln_strs | exact cln_wts | exact cln_nil | refine And.intro ?_ ?_ | refine Cln.agg ?_ | rw [List.forall_mem_cons])); (case' h => dsimp only [put, List.set])) | ((with_reducible refine aops_run ?_ (fun K' hK' => ?_)); exact rfl) | ((with_reducible refine hK' _ _ ?_); clear hK'; dsimp only [put, List.set]) | (simp only [aop, St.eval, List.getD_cons_zero, List.getD_cons_succ, aBin, binI, true_and, w0]; (all_goals fail_if_success show False))
  refine W.loop (fun j : Nat => ⟨[vI y, vI m, .any, .any, .any, .any, .any, vI (by_ + d + monD y j), vI ((j + 1 : Nat) : Int), .any, .any, .any, .any, .any, .any, .any, .any, .any, .any, .any, .any, .any, .any, .any], noMem⟩) (fun j => j + 1 ≤ m) (fun j => m - j) 0 ?wk0 (by omega) (fun j hj => ?_)
  case wk0 => rw [show by_ + d + monD y 0 = by_ + d by rw [monD]; omega]; exact Weak.flat rfl (by simp [All2, vw, vwA, vwC, clean_b])
  have hl := l3Last_ok y ((j + 1 : Nat) : Int) (by omega)
  have hin := lastD_in y ((j + 1 : Nat) : Int)
  have hmk := monD_in y j
  have e1 : monD y (j + 1) = monD y j + lastD y ((j + 1 : Nat) : Int) := rfl
  by_cases hlt : j + 1 < m
  · have e2 : by_ + d + monD y j + lastD y ((j + 1 : Nat) : Int) = by_ + d + monD y (j + 1) := by rw [e1]; omega
    generalize lastD y ((j + 1 : Nat) : Int) = ld at hl hin e2
    have w1 : IntKind.i64.wrap (by_ + d + monD y j + ld) = by_ + d + monD y j + ld := wrap_id (by omega) (by omega)
    have w2 : IntKind.i64.wrap (((j + 1 : Nat) : Int) + 1) = ((j + 1 + 1 : Nat) : Int) := by rw [wrap_id (by omega) (by omega)]; omega
    generalize hz : by_ + d + monD y j = z at w1 e2 ⊢
    have hqm : ((j + 1 : Nat) : Int) < m := by omega
    generalize hq : ((j + 1 : Nat) : Int) = q at hl w2 hqm ⊢
    repeat' first | (with_reducible first | refine W.seq ?_ | refine W.region ?_ | refine W_skip ?_ | refine W.block ?_ | refine Seq.normal ?_ | refine Blk.normal ?_ | refine aops_nil ?_) | ((with_reducible apply aops_callF); (case hg => exact rfl); (case ho => exact rfl); (case hc => exact rfl); (case hf => exact rfl); (case hok => first | exact hl); (case hcal => first | assumption | kernel_rfl); (case hcl => (with_reducible simp only [List.map_cons, List.map_nil, List.forall_mem_cons, St.eval, List.getD_cons_zero, List.getD_cons_succ]); (repeat' with_reducible first | exact Cln.b _ | exact cln_strs | exact cln_wts | exact cln_nil | refine And.intro ?_ ?_ | refine Cln.agg ?_ | rw [List.forall_mem_cons])); (case' h => dsimp only [put, List.set])) | ((with_reducible refine aops_run ?_ (fun K' hK' => ?_)); exact rfl) | ((with_reducible refine hK' _ _ ?_); clear hK'; dsimp only [put, List.set]) | ((with_reducible apply W_cond); (case hc => exact rfl); (case' h2 => (intro hc; replace hc := of_decide_eq_false hc)); (case' h1 => (intro hc; replace hc := of_decide_eq_true hc)); all_goals try (exfalso; first | omega | exact hc rfl | exact hc trivial | exact Bool.noConfusion hc)) | (simp only [aop, St.eval, List.getD_cons_zero, List.getD_cons_succ, aBin, binI, true_and, w1, w2]; (all_goals fail_if_success show False))
    refine Rnd.normal (j + 1) (by omega) (by omega) ?_
    rw [← e2]
    exact Weak.flat rfl (by simp [All2, vw, vwA, vwC, clean_b])
  · obtain rfl : m = j + 1 := by omega
    repeat' first | (with_reducible first | refine W.seq ?_ | refine W.region ?_ | refine W_ret ?_ | refine W_exit ?_ | refine Seq.normal ?_ | refine Seq.exit ?_ | refine Blk.same ?_ | refine Rnd.exit ?_ | refine aops_nil ?_) | ((with_reducible refine aops_run ?_ (fun K' hK' => ?_)); exact rfl) | ((with_reducible refine hK' _ _ ?_); clear hK'; dsimp only [put, List.set]) | ((with_reducible apply W_cond); (case hc => exact rfl); (case' h2 => (intro hc; replace hc := of_decide_eq_false hc)); (case' h1 => (intro hc; replace hc := of_decide_eq_true hc)); all_goals try (exfalso; first | omega | exact hc rfl | exact hc trivial | exact Bool.noConfusion hc)) | ((with_reducible first | refine Ends.ret ?_ | refine Ends.normal ?_); simp only [aRes, show Tryz.f88.results.toList = [.tmp 6] from rfl, aRess, aResV, oneOf, List.getD_cons_zero, List.getD_cons_succ]) | (simp only [aop, St.eval, List.getD_cons_zero, List.getD_cons_succ, aBin, binI, true_and]; (all_goals fail_if_success show False))
    all_goals exact Out.flat' rfl
end Go.Proofs.YtneapbfomhalpaaGreatDoor.T
