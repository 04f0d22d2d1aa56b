/- Walks of values, part 11: days and spans as texts, of the reference. -/
import Derived.Test.YtneapbfomhalpaaGreatDoorQVJ
import Derived.Test.YtneapbfomhalpaaGreatDoorQVF
set_option linter.unusedVariables false
set_option maxRecDepth 100000
set_option maxHeartbeats 4000000
set_option linter.unusedSimpArgs false
namespace Go.Pv
def dashB : ByteArray := ⟨#[45]⟩
/-- A day as a text. -/
def dayB (y m d : Int) : ByteArray := padB (itoaB y) 4 ++ dashB ++ padB (itoaB m) 2 ++ dashB ++ padB (itoaB d) 2
def mB : ByteArray := ⟨#[109]⟩
def dB : ByteArray := ⟨#[100]⟩
def spanT (m d : Int) : ByteArray := itoaB m ++ mB ++ itoaB d ++ dB
end Go.Pv
namespace Go.Proofs.YtneapbfomhalpaaGreatDoor.T
open Go Go.Pv Go.Proofs.YtneapbfomhalpaaGreatDoor.EF
theorem l3Day_ok (n y : Int) (m : Nat) (hn : 1 ≤ n ∧ n ≤ 3652059) (hy : YearOf n y) (h : MonthOf n y m) : Ok Tryz.prog 68 [vI n] (vI (n - beforeD y - monD y (m - 1))) [] := by
  have h1 := hy.lo
  have h2 := hy.hi
  have h3 := h.lo
  have h4 := h.hi
  have hY := l3Year_ok n y hy
  have hM := l3Month_ok n y m hy h
  have hO := l3Of_ok y m 1 ⟨h1, h2⟩ ⟨h3, h4⟩ (by decide)
  have bb := before_in h1 (by omega)
  have bm := monD_in y (m - 1)
  generalize beforeD y = by_ at hO bb ⊢
  generalize monD y (m - 1) = mm at hO bm ⊢
  have w1 : IntKind.i64.wrap (n - (by_ + 1 + mm)) = n - (by_ + 1 + mm) := wrap_id (by omega) (by omega)
  have w2 : IntKind.i64.wrap (n - (by_ + 1 + mm) + 1) = n - by_ - mm := by rw [wrap_id (by omega) (by omega)]; omega
  refine Ok.walk Tryz.func68 rfl ?_; simp only [startSt, show Tryz.f68.ntmps = 14 from rfl, List.length_cons, List.length_nil, Nat.reduceAdd, Nat.reduceSub, List.replicate, List.cons_append, List.nil_append]
  repeat' first | (with_reducible first | refine W.seq ?_ | refine W.region ?_ | refine W_ret ?_ | refine Seq.normal ?_ | refine aops_nil ?_) | ((with_reducible apply aops_callF); (case hg => exact rfl); (case ho => exact rfl); (case hc => exact rfl); (case hf => exact rfl); (case hok => first | exact hY | exact hM | exact hO); (case hcal => first | assumption | kernel_rfl); (case hcl => (with_reducible simp only [List.map_cons, List.map_nil, List.forall_mem_cons, St.eval, List.getD_cons_zero, List.getD_cons_succ]); (repeat' with_reducible first | exact Cln.b _ | exact cln_strs | exact cln_wts | exact cln_nil | refine And.intro ?_ ?_ | refine Cln.agg ?_ | rw [List.forall_mem_cons])); (case' h => dsimp only [put, List.set])) | ((with_reducible refine aops_run ?_ (fun K' hK' => ?_)); exact rfl) | ((with_reducible refine hK' _ _ ?_); clear hK'; dsimp only [put, List.set]) | ((with_reducible first | refine Ends.ret ?_ | refine Ends.normal ?_); simp only [aRes, show Tryz.f68.results.toList = [.tmp 2] from rfl, aRess, aResV, oneOf, List.getD_cons_zero, List.getD_cons_succ]) | (simp only [aop, St.eval, List.getD_cons_zero, List.getD_cons_succ, aBin, binI, true_and, w1, w2]; (all_goals fail_if_success show False))
  all_goals exact Out.flat' rfl
theorem l3Put_ok (n y : Int) (m : Nat) (hn : 1 ≤ n ∧ n ≤ 3652059) (hy : YearOf n y) (h : MonthOf n y m) : Ok Tryz.prog 41 [vI n] (vS (dayB y m (n - beforeD y - monD y (m - 1)))) [] := by
  have h1 := hy.lo
  have h2 := hy.hi
  have h3 := h.lo
  have h4 := h.hi
  have hY := l3Year_ok n y hy
  have hM := l3Month_ok n y m hy h
  have hD := l3Day_ok n y m hn hy h
  have bb := before_in h1 (by omega)
  have bm := monD_in y (m - 1)
  have hbf := h.before
  have hup := h.upto
  have hl := lastD_in y m
  have e1 : monD y m = monD y (m - 1) + lastD y m := by
    obtain ⟨k, rfl⟩ : ∃ k, m = k + 1 := ⟨m - 1, by omega⟩
    rfl
  rw [e1] at hup
  generalize beforeD y = by_ at hD bb hbf hup ⊢
  generalize monD y (m - 1) = mm at hD bm hbf hup ⊢
  obtain ⟨d, hd⟩ : ∃ d, d = n - by_ - mm := ⟨_, rfl⟩
  rw [← hd] at hD ⊢
  have v1 := l1Wide_ok y 4 (by omega) (by omega) (by decide)
  have v2 := l1Wide_ok m 2 (by omega) (by omega) (by decide)
  have v3 := l1Wide_ok d 2 (by omega) (by omega) (by decide)
  have z1 : (padB (itoaB y) 4).size ≤ 20 := by rw [padB_size]; have := itoaB_size y (by omega) (by omega); omega
  have z2 : (padB (itoaB m) 2).size ≤ 20 := by rw [padB_size]; have := itoaB_size m (by omega) (by omega); omega
  have z3 : (padB (itoaB d) 2).size ≤ 20 := by rw [padB_size]; have := itoaB_size d (by omega) (by omega); omega
  unfold dayB dashB
  generalize padB (itoaB y) 4 = p1 at v1 z1 ⊢
  generalize padB (itoaB m) 2 = p2 at v2 z2 ⊢
  generalize padB (itoaB d) 2 = p3 at v3 z3 ⊢
  refine Ok.walk Tryz.func41 rfl ?_; simp only [startSt, show Tryz.f41.ntmps = 19 from rfl, List.length_cons, List.length_nil, Nat.reduceAdd, Nat.reduceSub, List.replicate, List.cons_append, List.nil_append]
  repeat' first | (with_reducible first | refine W.seq ?_ | refine W.region ?_ | refine W_ret ?_ | refine Seq.normal ?_ | refine aops_nil ?_) | ((with_reducible apply aops_callF); (case hg => exact rfl); (case ho => exact rfl); (case hc => exact rfl); (case hf => exact rfl); (case hok => first | exact hY | exact hM | exact hD | exact v1 | exact v2 | exact v3); (case hcal => first | assumption | kernel_rfl); (case hcl => (with_reducible simp only [List.map_cons, List.map_nil, List.forall_mem_cons, St.eval, List.getD_cons_zero, List.getD_cons_succ]); (repeat' with_reducible first | exact Cln.b _ | exact cln_strs | exact cln_wts | exact cln_nil | refine And.intro ?_ ?_ | refine Cln.agg ?_ | rw [List.forall_mem_cons])); (case' h => dsimp only [put, List.set])) | ((with_reducible refine aops_run ?_ (fun K' hK' => ?_)); exact rfl) | ((with_reducible refine hK' _ _ ?_); clear hK'; dsimp only [put, List.set]) | (with_reducible first | refine And.intro ?_ ?_) | ((with_reducible show _ + _ ≤ 9223372036854775807); (simp only [ByteArray.size_append, bytes_size, List.length_cons, List.length_nil, List.size_toArray]; omega)) | ((with_reducible first | refine Ends.ret ?_ | refine Ends.normal ?_); simp only [aRes, show Tryz.f41.results.toList = [.tmp 2] from rfl, aRess, aResV, oneOf, List.getD_cons_zero, List.getD_cons_succ]) | (simp only [aop, St.eval, List.getD_cons_zero, List.getD_cons_succ, aBin, binS]; (all_goals fail_if_success show False))
  all_goals exact Out.flat' rfl
theorem l3SpanPut_ok (m d : Int) (h : spanB m d = true) : Ok Tryz.prog 42 [.agg [vI m, vI d]] (vS (spanT m d)) [] := by
  unfold spanB at h
  have h := of_decide_eq_true h
  have v1 := l1Dec_ok m (by omega) (by omega)
  have v2 := l1Dec_ok d (by omega) (by omega)
  have z1 := itoaB_size m (by omega) (by omega)
  have z2 := itoaB_size d (by omega) (by omega)
  unfold spanT mB dB
  generalize itoaB m = p1 at v1 z1 ⊢
  generalize itoaB d = p2 at v2 z2 ⊢
  refine Ok.walk Tryz.func42 rfl ?_; simp only [startSt, show Tryz.f42.ntmps = 12 from rfl, List.length_cons, List.length_nil, Nat.reduceAdd, Nat.reduceSub, List.replicate, List.cons_append, List.nil_append]
  repeat' first | (with_reducible first | refine W.seq ?_ | refine W.region ?_ | refine W_ret ?_ | refine Seq.normal ?_ | refine aops_nil ?_ | refine aheadU_nil ?_) | ((with_reducible apply ahead_callF); (case hg => exact rfl); (case ho => exact rfl); (case hc => exact rfl); (case hf => exact rfl); (case hok => first | exact v1 | exact v2); (case hcal => first | assumption | kernel_rfl); (case hcl => (with_reducible simp only [List.map_cons, List.map_nil, List.forall_mem_cons, St.eval, List.getD_cons_zero, List.getD_cons_succ]); (repeat' with_reducible first | exact Cln.b _ | exact cln_strs | exact cln_wts | exact cln_nil | refine And.intro ?_ ?_ | refine Cln.agg ?_ | rw [List.forall_mem_cons])); (case' h => dsimp only [putL, List.set])) | ((with_reducible refine aops_run ?_ (fun K' hK' => ?_)); exact rfl) | ((with_reducible refine aheadU_run ?_ ?_ ?_ (fun K' hA' => ?_)); exact rfl; exact rfl; exact rfl) | ((with_reducible refine hA'.1 _ ?_); clear hA'; dsimp only [putL, List.set]) | ((with_reducible refine W.drawU (id := 1) (n := 10) mixed ?_ ?_ ?_ ?_); kernel_rfl; (simp only [List.length_cons, List.length_nil]; omega); (intro k h1 h2; first | rfl | ((try simp only []); (repeat rw [upd_ne _ _ (by omega)]) <;> rfl) | (simp only [upd]; (repeat' split) <;> first | rfl | omega)); dsimp only [List.take, List.drop]) | ((with_reducible refine hK' _ _ ?_); clear hK'; dsimp only [put, List.set]) | (with_reducible first | refine And.intro ?_ ?_) | ((with_reducible show _ + _ ≤ 9223372036854775807); (simp only [ByteArray.size_append, bytes_size, List.length_cons, List.length_nil, List.size_toArray]; omega)) | ((with_reducible first | refine Ends.ret ?_ | refine Ends.normal ?_); simp only [aRes, show Tryz.f42.results.toList = [.tmp 2] from rfl, aRess, aResV, oneOf, List.getD_cons_zero, List.getD_cons_succ, addU]) | (simp only [aop, St.eval, List.getD_cons_zero, List.getD_cons_succ, aBin, binS, aLoad, loadPV_one, aField, cellsOf, upd, Nat.mul_one, List.length_cons, List.length_nil, List.drop_zero, List.drop_succ_cons, if_true, true_and, Nat.reduceAdd, Nat.reduceMul, Nat.reduceLT, Nat.zero_add, Nat.add_zero, fo36_0, fo36_1, ti3]; (all_goals fail_if_success show False))
  all_goals exact Out.flat' rfl
end Go.Proofs.YtneapbfomhalpaaGreatDoor.T
