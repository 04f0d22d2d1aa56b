/- Walks of values, part 22: decimals, days and spans of the program. -/
import Derived.Test.YtneapbfomhalpaaGreatDoorQVU
import Derived.Test.YtneapbfomhalpaaGreatDoorQVJ
set_option linter.unusedVariables false
set_option maxRecDepth 100000
set_option maxHeartbeats 4000000
set_option linter.unusedSimpArgs false
namespace Go.Pv
theorem itoaB_pos {n : Int} (h0 : 0 ≤ n) : 0 < (itoaB n).size := by
  obtain ⟨k, rfl⟩ : ∃ k : Nat, n = k := ⟨n.toNat, by omega⟩
  by_cases a1 : k < 10
  · rw [itoaB_small a1]; exact Nat.zero_lt_one
  · rw [itoaB_step (by omega), ByteArray.size_append]
    have : ∀ c : Int, (ofInts [c]).size = 1 := fun c => rfl
    rw [this]
    omega
theorem figK_pos {l : List Int} (hl : ∀ k, 0 ≤ l.getD k 0 ∧ l.getD k 0 ≤ 9999) : ∀ k, 0 < (figK l k).size
  | 0 => itoaB_pos (hl _).1
  | k + 1 => by
    have := figK_pos hl k
    rw [figK, ByteArray.size_append]
    omega
theorem figL_pos {l : List Int} (hl : ∀ k, 0 ≤ l.getD k 0 ∧ l.getD k 0 ≤ 9999) : 0 < (figL l).size := by
  unfold figL
  split
  · decide
  · exact figK_pos hl _
end Go.Pv
namespace Go.Proofs.YtneapbfomhalpaaGreatDoor.T
open Go Go.Pv Go.Proofs.YtneapbfomhalpaaGreatDoor.EF
theorem digits_ok (l : List Int) (hl : ∀ k, 0 ≤ l.getD k 0 ∧ l.getD k 0 ≤ 9999) (hn : l.length ≤ 10000) : Ok Tryz.prog 73 [.val l.length (l.map vI)] (vI (longL l)) [] := by
  have hf := text_ok l hl hn
  have hs := figL_size hl hn
  unfold longL
  generalize figL l = f at hf hs ⊢
  by_cases h0 : l.length = 0
  · rw [if_pos h0]
    refine Ok.walk Tryz.func73 rfl ?_; simp only [startSt, show Tryz.f73.ntmps = 9 from rfl, List.length_cons, List.length_nil, Nat.reduceAdd, Nat.reduceSub, List.replicate, List.cons_append, List.nil_append]
    repeat' first | (with_reducible first | refine W.seq ?_ | refine W.region ?_ | refine W_ret ?_ | refine Seq.normal ?_ | refine Seq.ret ?_ | refine aops_nil ?_) | ((with_reducible refine aops_run ?_ (fun K' hK' => ?_)); exact rfl) | ((with_reducible refine hK' _ _ ?_); clear hK'; dsimp only [put, List.set]) | ((with_reducible apply W_cond); (case hc => exact rfl); (case' h2 => (intro hc; replace hc := of_decide_eq_false hc)); (case' h1 => (intro hc; replace hc := of_decide_eq_true hc)); all_goals try (exfalso; first | omega | exact hc rfl | exact hc trivial | exact Bool.noConfusion hc)) | ((with_reducible first | refine Ends.ret ?_ | refine Ends.normal ?_); simp only [aRes, show Tryz.f73.results.toList = [.tmp 2] from rfl, aRess, aResV, oneOf, List.getD_cons_zero, List.getD_cons_succ]) | (simp only [aop, Option.isSome_some, St.eval, List.getD_cons_zero, List.getD_cons_succ, aBin, binI, aLen, aBuiltin, List.map_cons, List.map_nil, true_and, se102]; (all_goals fail_if_success show False))
    all_goals exact Out.flat' rfl
  · rw [if_neg h0]
    refine Ok.walk Tryz.func73 rfl ?_; simp only [startSt, show Tryz.f73.ntmps = 9 from rfl, List.length_cons, List.length_nil, Nat.reduceAdd, Nat.reduceSub, List.replicate, List.cons_append, List.nil_append]
    repeat' first | (with_reducible first | refine W.seq ?_ | refine W.region ?_ | refine W_ret ?_ | refine W_skip ?_ | refine Seq.normal ?_ | refine aops_nil ?_) | ((with_reducible apply aops_callF); (case hg => exact rfl); (case ho => exact rfl); (case hc => exact rfl); (case hf => exact rfl); (case hok => first | exact hf); (case hcal => first | assumption | kernel_rfl); (case hcl => (with_reducible simp only [List.map_cons, List.map_nil, List.forall_mem_cons, St.eval, List.getD_cons_zero, List.getD_cons_succ]); (repeat' with_reducible first | exact Cln.b _ | exact cln_strs | exact cln_wts | exact cln_vI | exact cln_nil | refine And.intro ?_ ?_ | refine Cln.agg ?_ | rw [List.forall_mem_cons])); (case' h => dsimp only [put, List.set])) | ((with_reducible refine aops_run ?_ (fun K' hK' => ?_)); exact rfl) | ((with_reducible refine hK' _ _ ?_); clear hK'; dsimp only [put, List.set]) | ((with_reducible apply W_cond); (case hc => exact rfl); (case' h2 => (intro hc; replace hc := of_decide_eq_false hc)); (case' h1 => (intro hc; replace hc := of_decide_eq_true hc)); all_goals try (exfalso; first | omega | exact hc rfl | exact hc trivial | exact Bool.noConfusion hc)) | ((with_reducible first | refine Ends.ret ?_ | refine Ends.normal ?_); simp only [aRes, show Tryz.f73.results.toList = [.tmp 2] from rfl, aRess, aResV, oneOf, List.getD_cons_zero, List.getD_cons_succ]) | (simp only [aop, Option.isSome_some, St.eval, List.getD_cons_zero, List.getD_cons_succ, aBin, binI, aLen, aBuiltin, List.map_cons, List.map_nil, true_and, se102, us9]; (all_goals fail_if_success show False))
    all_goals exact Out.flat' rfl
theorem DecOk_ok (d : Dc) (h : d.limbs.length ≤ 2000000) : Ok Tryz.prog 46 [vDc d] (vB (okD d)) [] := by
  have hB := BigOk_ok d h
  have hI := in_ok d.scale 0 12
  unfold okD
  cases hk : okB d with
  | false =>
    rw [hk] at hB
    obtain ⟨ng, l, sc⟩ := d
    dsimp only at h hB hI ⊢
    refine Ok.walk Tryz.func46 rfl ?_; simp only [startSt, show Tryz.f46.ntmps = 18 from rfl, List.length_cons, List.length_nil, Nat.reduceAdd, Nat.reduceSub, List.replicate, List.cons_append, List.nil_append]
    repeat' first | (with_reducible first | refine W.seq ?_ | refine W.region ?_ | refine W_ret ?_ | refine Seq.normal ?_ | refine aops_nil ?_) | ((with_reducible apply aops_callF); (case hg => exact rfl); (case ho => exact rfl); (case hc => exact rfl); (case hf => exact rfl); (case hok => first | exact hB); (case hcal => first | assumption | kernel_rfl); (case hcl => (with_reducible simp only [List.map_cons, List.map_nil, List.forall_mem_cons, St.eval, List.getD_cons_zero, List.getD_cons_succ]); (repeat' with_reducible first | exact Cln.b _ | exact cln_strs | exact cln_wts | exact cln_vI | exact cln_nil | refine And.intro ?_ ?_ | refine Cln.agg ?_ | rw [List.forall_mem_cons])); (case' h => dsimp only [put, List.set])) | ((with_reducible refine aops_run ?_ (fun K' hK' => ?_)); exact rfl) | ((with_reducible refine aops_skip ?_ ?_); exact rfl; dsimp only [put, List.set]) | ((with_reducible refine hK' _ _ ?_); clear hK'; dsimp only [put, List.set]) | ((with_reducible first | refine Ends.ret ?_ | refine Ends.normal ?_); simp only [aRes, show Tryz.f46.results.toList = [.tmp 2] from rfl, aRess, aResV, oneOf, List.getD_cons_zero, List.getD_cons_succ]) | (simp only [aop, St.eval, List.getD_cons_zero, List.getD_cons_succ, aLoad, loadPV_agg, aField, cellsOf, upd, Nat.mul_one, List.length_cons, List.length_nil, List.drop_zero, List.take_succ_cons, List.take_zero, if_true, if_false, Bool.false_eq_true, true_and, Nat.reduceAdd, Nat.reduceMul, Nat.reduceLT, Nat.reduceLeDiff, Nat.zero_add, Nat.add_zero, fo35_0, ti33]; (all_goals fail_if_success show False))
    all_goals exact Out.flat' rfl
  | true =>
    obtain ⟨h1, h2⟩ := okB_limbs hk
    have hL := digits_ok d.limbs h2 (by omega)
    rw [hk] at hB
    obtain ⟨ng, l, sc⟩ := d
    dsimp only at h h1 h2 hB hI hL ⊢
    generalize longL l = g at hL ⊢
    refine Ok.walk Tryz.func46 rfl ?_; simp only [startSt, show Tryz.f46.ntmps = 18 from rfl, List.length_cons, List.length_nil, Nat.reduceAdd, Nat.reduceSub, List.replicate, List.cons_append, List.nil_append]
    repeat' first | (with_reducible first | refine W.seq ?_ | refine W.region ?_ | refine W_ret ?_ | refine Seq.normal ?_ | refine aops_nil ?_) | ((with_reducible apply aops_callF); (case hg => exact rfl); (case ho => exact rfl); (case hc => exact rfl); (case hf => exact rfl); (case hok => first | exact hB | exact hL | exact hI); (case hcal => first | assumption | kernel_rfl); (case hcl => (with_reducible simp only [List.map_cons, List.map_nil, List.forall_mem_cons, St.eval, List.getD_cons_zero, List.getD_cons_succ]); (repeat' with_reducible first | exact Cln.b _ | exact cln_strs | exact cln_wts | exact cln_vI | exact cln_nil | refine And.intro ?_ ?_ | refine Cln.agg ?_ | rw [List.forall_mem_cons])); (case' h => dsimp only [put, List.set])) | ((with_reducible refine aops_run ?_ (fun K' hK' => ?_)); exact rfl) | ((with_reducible refine aops_skip ?_ ?_); exact rfl; dsimp only [put, List.set]) | ((with_reducible apply aops_cons_if); (case hg => exact rfl); (case' h1 => (intro hg; (first | replace hg := beqT hg | replace hg := beqTf hg | replace hg := beqF hg | replace hg := beqFf hg); rw [hg]; (first | replace hg := of_decide_eq_true hg | replace hg := of_decide_eq_false hg | replace hg := ndT hg | replace hg := ndF hg | replace hg := nbT hg | replace hg := nbF hg | skip); (try (exfalso; omega)); all_goals (intro K' hK'))); (case' h2 => (intro hg; (first | replace hg := beqT hg | replace hg := beqTf hg | replace hg := beqF hg | replace hg := beqFf hg); rw [hg]; dsimp only [put, List.set]; (first | replace hg := of_decide_eq_true hg | replace hg := of_decide_eq_false hg | replace hg := ndT hg | replace hg := ndF hg | replace hg := nbT hg | replace hg := nbF hg | skip); (try (exfalso; omega))))) | ((with_reducible refine hK' _ _ ?_); clear hK'; dsimp only [put, List.set]) | ((with_reducible first | refine Ends.ret ?_ | refine Ends.normal ?_); simp only [aRes, show Tryz.f46.results.toList = [.tmp 2] from rfl, aRess, aResV, oneOf, List.getD_cons_zero, List.getD_cons_succ]) | (simp only [aop, St.eval, List.getD_cons_zero, List.getD_cons_succ, aBin, binI, aLoad, loadPV_one, loadPV_agg, aField, cellsOf, upd, Nat.mul_one, List.length_cons, List.length_nil, List.drop_zero, List.drop_succ_cons, List.take_succ_cons, List.take_zero, if_true, if_false, Bool.false_eq_true, true_and, Nat.reduceAdd, Nat.reduceMul, Nat.reduceLT, Nat.reduceLeDiff, Nat.zero_add, Nat.add_zero, fo33_1, fo35_0, fo35_1, ti22, ti3, ti33]; (all_goals fail_if_success show False))
    all_goals first
      | exact Out.flat' rfl
      | exact Out.flat' (congrArg Value.bool (by simp_all; done))
      | exact Out.flat' (congrArg Value.bool (by simp_all; omega))
theorem padded_ok (n : Int) (w : Nat) (h0 : 0 ≤ n) (h1 : n ≤ 9223372036854775807) (hw : w ≤ 1000000) : Ok Tryz.prog 95 [vI n, vI w] (vS (padB (itoaB n) w)) [] := by
  have hd := itoa_ok n (by omega) h1
  have hs := itoaB_size n (by omega) h1
  unfold padB
  generalize itoaB n = s at hd hs ⊢
  have hz := zeros_ok (w - s.size) (by omega)
  have hzs := zeroS_size (w - s.size)
  generalize zeroS (w - s.size) = z at hz hzs ⊢
  have hm : max 0 (IntKind.i64.wrap ((w : Int) - (s.size : Nat))) = ((w - s.size : Nat) : Int) := by rw [wrap_id (by omega) (by omega)]; omega
  refine Ok.walk Tryz.func95 rfl ?_; simp only [startSt, show Tryz.f95.ntmps = 16 from rfl, List.length_cons, List.length_nil, Nat.reduceAdd, Nat.reduceSub, List.replicate, List.cons_append, List.nil_append]
  repeat' first | (with_reducible first | refine W.seq ?_ | refine W.region ?_ | refine W_ret ?_ | refine Seq.normal ?_ | refine aops_nil ?_) | ((with_reducible apply aops_callF); (case hg => exact rfl); (case ho => exact rfl); (case hc => exact rfl); (case hf => exact rfl); (case hok => first | exact hd | exact hz); (case hcal => first | assumption | kernel_rfl); (case hcl => (with_reducible simp only [List.map_cons, List.map_nil, List.forall_mem_cons, St.eval, List.getD_cons_zero, List.getD_cons_succ]); (repeat' with_reducible first | exact Cln.b _ | exact cln_strs | exact cln_wts | exact cln_vI | exact cln_nil | refine And.intro ?_ ?_ | refine Cln.agg ?_ | rw [List.forall_mem_cons])); (case' h => dsimp only [put, List.set])) | ((with_reducible refine aops_run ?_ (fun K' hK' => ?_)); exact rfl) | ((with_reducible refine hK' _ _ ?_); clear hK'; dsimp only [put, List.set]) | (with_reducible first | refine And.intro ?_ ?_) | ((with_reducible first | show (_ : Int) < _ | show (_ : Int) ≤ _ | show (_ : Int) ≠ _ | show (_ : Nat) < _ | show (_ : Nat) ≤ _ | show (_ : Nat) ≠ _); omega) | ((with_reducible first | refine Ends.ret ?_ | refine Ends.normal ?_); simp only [aRes, show Tryz.f95.results.toList = [.tmp 4] from rfl, aRess, aResV, oneOf, List.getD_cons_zero, List.getD_cons_succ]) | (simp only [aop, St.eval, List.getD_cons_zero, List.getD_cons_succ, aBin, binI, binS, aLen, aMin, aBuiltin, List.map_cons, List.map_nil, if_true, true_and, hm, us9]; (all_goals fail_if_success show False))
  all_goals exact Out.flat' rfl
theorem DayPut_ok (n : Int) (h : 1 ≤ n ∧ n ≤ 3652059) : Ok Tryz.prog 76 [vI n] (vS (dayT n)) [] := by
  have hy := yearD_of h
  have hm := monthD_of h
  have hD := DayParts_ok n _ _ h hy hm
  have h1 := hy.lo
  have h2 := hy.hi
  have h3 := hm.lo
  have h4 := hm.hi
  have bb := before_in h1 (by omega)
  have bm := monD_in (yearD n) (monthD n - 1)
  have hbf := hm.before
  unfold dayT dayB dashB
  generalize beforeD (yearD n) = by_ at hD bb hbf ⊢
  generalize monD (yearD n) (monthD n - 1) = mm at hD bm hbf ⊢
  generalize yearD n = y at *
  generalize monthD n = m at *
  obtain ⟨d, hd⟩ : ∃ d, d = n - by_ - mm := ⟨_, rfl⟩
  rw [← hd] at hD ⊢
  have v1 := padded_ok y 4 (by omega) (by omega) (by decide)
  have v2 := padded_ok m 2 (by omega) (by omega) (by decide)
  have v3 := padded_ok d 2 (by omega) (by omega) (by decide)
  have z1 : (padB (itoaB y) 4).size ≤ 20 := by rw [padB_size]; have := itoaB_size y (by omega) (by omega); omega
  have z2 : (padB (itoaB m) 2).size ≤ 20 := by rw [padB_size]; have := itoaB_size m (by omega) (by omega); omega
  have z3 : (padB (itoaB d) 2).size ≤ 20 := by rw [padB_size]; have := itoaB_size d (by omega) (by omega); omega
  generalize padB (itoaB y) 4 = p1 at v1 z1 ⊢
  generalize padB (itoaB m) 2 = p2 at v2 z2 ⊢
  generalize padB (itoaB d) 2 = p3 at v3 z3 ⊢
  refine Ok.walk Tryz.func76 rfl ?_; simp only [startSt, show Tryz.f76.ntmps = 26 from rfl, List.length_cons, List.length_nil, Nat.reduceAdd, Nat.reduceSub, List.replicate, List.cons_append, List.nil_append]
  repeat' first | (with_reducible first | refine W.seq ?_ | refine W.region ?_ | refine W_ret ?_ | refine W_skip ?_ | refine Seq.normal ?_ | refine aops_nil ?_) | ((with_reducible apply aops_callF); (case hg => exact rfl); (case ho => exact rfl); (case hc => exact rfl); (case hf => exact rfl); (case hok => first | exact hD | exact v1 | exact v2 | exact v3); (case hcal => first | assumption | kernel_rfl); (case hcl => (with_reducible simp only [List.map_cons, List.map_nil, List.forall_mem_cons, St.eval, List.getD_cons_zero, List.getD_cons_succ, sh, shA, shC]); (repeat' with_reducible first | exact Cln.b _ | exact cln_strs | exact cln_wts | exact cln_vI | exact cln_nil | refine And.intro ?_ ?_ | refine Cln.agg ?_ | rw [List.forall_mem_cons])); (case' h => dsimp only [put, List.set])) | ((with_reducible apply aops_callR); (case hg => exact rfl); (case ho => exact rfl); (case hc => exact rfl); (case hf => exact rfl); (case hok => first | exact hD | exact v1 | exact v2 | exact v3); (case hcal => first | assumption | kernel_rfl); (case hcl => (with_reducible simp only [List.map_cons, List.map_nil, List.forall_mem_cons, St.eval, List.getD_cons_zero, List.getD_cons_succ]); (repeat' with_reducible first | exact Cln.b _ | exact cln_strs | exact cln_wts | exact cln_vI | exact cln_nil | refine And.intro ?_ ?_ | refine Cln.agg ?_ | rw [List.forall_mem_cons])); (case hfree => (intro q hq; simp only [List.length_nil] at hq; first | (simp []; (try omega); done) | ((try simp only [rowsAt, impRows, List.map_nil]); (repeat rw [upd_ne _ _ (by omega)]) <;> rfl) | (simp only [upd]; (repeat' split) <;> first | rfl | omega))); (case hgo => simp [GOk, AOk, HOk.b]); (case hgr => first | (simp []; done) | (repeat' first | exact rows_strs | exact rows_wts | exact rows_none | refine List.forall_mem_cons.2 ⟨?_, ?_⟩)); (case' h => dsimp only [put, List.set])) | ((with_reducible refine aops_run ?_ (fun K' hK' => ?_)); exact rfl) | ((with_reducible refine hK' _ _ ?_); clear hK'; dsimp only [put, List.set]) | ((with_reducible apply W_cond); (case hc => exact rfl); (case' h2 => (intro hc; replace hc := nbF hc)); (case' h1 => (intro hc; replace hc := nbT hc)); all_goals try (exfalso; first | omega | exact hc rfl | exact hc trivial | exact Bool.noConfusion hc)) | (with_reducible first | refine And.intro ?_ ?_) | ((with_reducible show _ + _ ≤ 9223372036854775807); (simp only [ByteArray.size_append, bytes_size, List.length_cons, List.length_nil, List.size_toArray]; omega)) | ((with_reducible first | refine Ends.ret ?_ | refine Ends.normal ?_); simp only [aRes, show Tryz.f76.results.toList = [.tmp 2] from rfl, aRess, aResV, oneOf, List.getD_cons_zero, List.getD_cons_succ, Nat.reduceAdd]) | (simp only [aop, List.getElem?_cons_zero, List.getElem?_cons_succ, St.eval, List.getD_cons_zero, List.getD_cons_succ, aBin, binS, aUn, aExtract, sh, shA, shC, rowsAt, impRows, Nat.mul_one, List.map_cons, List.map_nil, Nat.reduceAdd, Nat.reduceMul, Nat.zero_add]; (all_goals fail_if_success show False))
  all_goals exact Out.flat' rfl
theorem SpanPut_ok (m d : Int) (h : spanB m d = true) : Ok Tryz.prog 77 [.agg [vI m, vI d]] (vS (spanT m d)) [] := by
  have hS := SpanOk_ok m d
  rw [h] at hS
  unfold spanB at h
  have h := of_decide_eq_true h
  have v1 := itoa_ok m (by omega) (by omega)
  have v2 := itoa_ok d (by omega) (by omega)
  have z1 := itoaB_size m (by omega) (by omega)
  have z2 := itoaB_size d (by omega) (by omega)
  unfold spanT mB dB
  generalize itoaB m = p1 at v1 z1 ⊢
  generalize itoaB d = p2 at v2 z2 ⊢
  refine Ok.walk Tryz.func77 rfl ?_; simp only [startSt, show Tryz.f77.ntmps = 15 from rfl, List.length_cons, List.length_nil, Nat.reduceAdd, Nat.reduceSub, List.replicate, List.cons_append, List.nil_append]
  repeat' first | (with_reducible first | refine W.seq ?_ | refine W.region ?_ | refine W_ret ?_ | refine W_skip ?_ | refine Seq.normal ?_ | refine aops_nil ?_ | refine aheadU_nil ?_) | ((with_reducible apply aops_callF); (case hg => exact rfl); (case ho => exact rfl); (case hc => exact rfl); (case hf => exact rfl); (case hok => first | exact hS | exact v1 | exact v2); (case hcal => first | assumption | kernel_rfl); (case hcl => (with_reducible simp only [List.map_cons, List.map_nil, List.forall_mem_cons, St.eval, List.getD_cons_zero, List.getD_cons_succ]); (repeat' with_reducible first | exact Cln.b _ | exact cln_strs | exact cln_wts | exact cln_vI | exact cln_nil | refine And.intro ?_ ?_ | refine Cln.agg ?_ | rw [List.forall_mem_cons])); (case' h => dsimp only [put, List.set])) | ((with_reducible apply ahead_callF); (case hg => exact rfl); (case ho => exact rfl); (case hc => exact rfl); (case hf => exact rfl); (case hok => first | exact hS | exact v1 | exact v2); (case hcal => first | assumption | kernel_rfl); (case hcl => (with_reducible simp only [List.map_cons, List.map_nil, List.forall_mem_cons, St.eval, List.getD_cons_zero, List.getD_cons_succ]); (repeat' with_reducible first | exact Cln.b _ | exact cln_strs | exact cln_wts | exact cln_vI | exact cln_nil | refine And.intro ?_ ?_ | refine Cln.agg ?_ | rw [List.forall_mem_cons])); (case' h => dsimp only [putL, List.set])) | ((with_reducible refine aops_run ?_ (fun K' hK' => ?_)); exact rfl) | ((with_reducible refine aheadU_run ?_ ?_ ?_ (fun K' hA' => ?_)); exact rfl; exact rfl; exact rfl) | ((with_reducible refine hA'.1 _ ?_); clear hA'; dsimp only [putL, List.set]) | ((with_reducible refine W.drawU (id := 3) (n := 10) mixed ?_ ?_ ?_ ?_); kernel_rfl; (simp only [List.length_cons, List.length_nil]; omega); (intro k h1 h2; first | rfl | ((try simp only []); (repeat rw [upd_ne _ _ (by omega)]) <;> rfl) | (simp only [upd]; (repeat' split) <;> first | rfl | omega)); dsimp only [List.take, List.drop]) | ((with_reducible refine hK' _ _ ?_); clear hK'; dsimp only [put, List.set]) | ((with_reducible apply W_cond); (case hc => exact rfl); (case' h2 => (intro hc; replace hc := nbF hc)); (case' h1 => (intro hc; replace hc := nbT hc)); all_goals try (exfalso; first | omega | exact hc rfl | exact hc trivial | exact Bool.noConfusion hc)) | (with_reducible first | refine And.intro ?_ ?_) | ((with_reducible show _ + _ ≤ 9223372036854775807); (simp only [ByteArray.size_append, bytes_size, List.length_cons, List.length_nil, List.size_toArray]; omega)) | ((with_reducible first | refine Ends.ret ?_ | refine Ends.normal ?_); simp only [aRes, show Tryz.f77.results.toList = [.tmp 2] from rfl, aRess, aResV, oneOf, List.getD_cons_zero, List.getD_cons_succ, addU]) | (simp only [aop, St.eval, List.getD_cons_zero, List.getD_cons_succ, aBin, binS, aUn, aLoad, loadPV_one, loadPV_agg, aField, cellsOf, upd, Nat.mul_one, List.length_cons, List.length_nil, List.drop_zero, List.drop_succ_cons, List.take_succ_cons, List.take_zero, if_true, true_and, Nat.reduceAdd, Nat.reduceMul, Nat.reduceLT, Nat.reduceLeDiff, Nat.zero_add, Nat.add_zero, fo36_0, fo36_1, ti3, ti36]; (all_goals fail_if_success show False))
  all_goals exact Out.flat' rfl
theorem DecPut_ok (d : Dc) (h : okD d = true) : Ok Tryz.prog 75 [vDc d] (vS (decT d)) [] := by
  have hO := DecOk_ok d (by
    unfold okD at h
    simp only [Bool.and_eq_true] at h
    have := (okB_limbs h.1).1
    omega)
  rw [h] at hO
  unfold okD at h
  simp only [Bool.and_eq_true, decide_eq_true_eq] at h
  obtain ⟨hB, hL, hs⟩ := h
  obtain ⟨b1, b2⟩ := okB_limbs hB
  have hF := text_ok d.limbs b2 (by omega)
  have hz := figL_size b2 (by omega)
  have hp := figL_pos b2
  unfold decT
  obtain ⟨ng, l, sc⟩ := d
  dsimp only at hF hz hs b1 ⊢
  obtain ⟨k, rfl⟩ : ∃ k : Nat, sc = k := ⟨sc.toNat, by omega⟩
  rw [Int.toNat_natCast]
  dsimp only at hp
  generalize figL l = f at hF hz hp ⊢
  have hZ := zeros_ok (k + 1 - f.size) (by omega)
  have hzs := zeroS_size (k + 1 - f.size)
  have hm : max 0 (IntKind.i64.wrap (IntKind.i64.wrap ((k : Int) + 1) - (f.size : Nat))) = ((k + 1 - f.size : Nat) : Int) := by rw [wrap_id (x := (k : Int) + 1) (by omega) (by omega), wrap_id (by omega) (by omega)]; omega
  rw [show padB f (k + 1) = zeroS (k + 1 - f.size) ++ f from rfl]
  generalize zeroS (k + 1 - f.size) = z at hZ hzs ⊢
  have hy : (z ++ f).size = z.size + f.size := ByteArray.size_append
  have h1 : ∀ c : UInt8, (⟨#[c]⟩ : ByteArray).size = 1 := fun _ => rfl
  by_cases hk0 : 0 < k
  · have w1 : IntKind.i64.wrap (((z ++ f).size : Int) - k) = (((z ++ f).size - k : Nat) : Int) := by rw [wrap_id (by omega) (by omega)]; omega
    unfold dotB
    rw [if_pos hk0]
    generalize hzf : z ++ f = y at w1 hy ⊢
    cases ng
    all_goals (refine Ok.walk Tryz.func75 rfl ?_; simp only [startSt, show Tryz.f75.ntmps = 44 from rfl, List.length_cons, List.length_nil, Nat.reduceAdd, Nat.reduceSub, List.replicate, List.cons_append, List.nil_append])
    all_goals (repeat' first | ((with_reducible show _ + _ ≤ 9223372036854775807); (simp only [ByteArray.size_append, ByteArray.size_extract, h1]; omega)) | (with_reducible first | refine W.seq ?_ | refine W.region ?_ | refine W_ret ?_ | refine W_skip ?_ | refine Seq.normal ?_ | refine Seq.ret ?_ | refine aops_nil ?_ | refine aheadU_nil ?_) | ((with_reducible apply aops_callF); (case hg => exact rfl); (case ho => exact rfl); (case hc => exact rfl); (case hf => exact rfl); (case hok => first | exact hO | exact hF | exact hZ); (case hcal => first | assumption | kernel_rfl); (case hcl => (with_reducible simp only [List.map_cons, List.map_nil, List.forall_mem_cons, St.eval, List.getD_cons_zero, List.getD_cons_succ]); (repeat' with_reducible first | exact Cln.b _ | exact cln_strs | exact cln_wts | exact cln_vI | exact cln_nil | refine And.intro ?_ ?_ | refine Cln.agg ?_ | rw [List.forall_mem_cons])); (case' h => dsimp only [put, List.set])) | ((with_reducible refine aops_run ?_ (fun K' hK' => ?_)); exact rfl) | ((with_reducible refine aheadU_run ?_ ?_ ?_ (fun K' hA' => ?_)); exact rfl; exact rfl; exact rfl) | ((with_reducible refine hA'.1 _ ?_); clear hA'; dsimp only [putL, List.set]) | ((with_reducible refine W.drawU (id := 7) (n := 9) mixed ?_ ?_ ?_ ?_); kernel_rfl; (simp only [List.length_cons, List.length_nil]; omega); (intro k h1 h2; first | rfl | ((try simp only []); (repeat rw [upd_ne _ _ (by omega)]) <;> rfl) | (simp only [upd]; (repeat' split) <;> first | rfl | omega)); dsimp only [List.take, List.drop]) | ((with_reducible refine hK' _ _ ?_); clear hK'; dsimp only [put, List.set]) | ((with_reducible apply W_cond); (case hc => exact rfl); (case' h2 => (intro hc; replace hc := of_decide_eq_false hc)); (case' h1 => (intro hc; replace hc := of_decide_eq_true hc)); all_goals try (exfalso; first | omega | exact hc rfl | exact hc trivial | exact Bool.noConfusion hc)) | ((with_reducible apply W_cond); (case hc => exact rfl); (case' h2 => (intro hc; replace hc := nbF hc)); (case' h1 => (intro hc; replace hc := nbT hc)); all_goals try (exfalso; first | omega | exact hc rfl | exact hc trivial | exact Bool.noConfusion hc)) | ((with_reducible apply W_cond); (case hc => exact rfl); all_goals intro hc; all_goals try (exfalso; first | omega | exact hc rfl | exact hc trivial | exact Bool.noConfusion hc)) | (with_reducible first | refine And.intro ?_ ?_) | ((with_reducible first | show (_ : Int) < _ | show (_ : Int) ≤ _ | show (_ : Int) ≠ _ | show (_ : Nat) < _ | show (_ : Nat) ≤ _ | show (_ : Nat) ≠ _); omega) | ((with_reducible first | refine Ends.ret ?_ | refine Ends.normal ?_); simp only [aRes, show Tryz.f75.results.toList = [.tmp 2] from rfl, aRess, aResV, oneOf, List.getD_cons_zero, List.getD_cons_succ, if_true]) | (simp only [aop, St.eval, List.getD_cons_zero, List.getD_cons_succ, aBin, binI, binS, aUn, aLoad, loadPV_one, loadPV_agg, aField, aLen, aMin, aBuiltin, aSlice, cellsOf, getI, upd, addU, Int.toNat_natCast, Nat.mul_one, List.map_cons, List.map_nil, List.length_cons, List.length_nil, List.drop_zero, List.drop_succ_cons, List.take_succ_cons, List.take_zero, Option.map_some, Option.map_none, Option.getD_some, Option.getD_none, if_true, if_false, Bool.false_eq_true, true_and, Nat.reduceAdd, Nat.reduceMul, Nat.reduceLT, Nat.reduceLeDiff, Int.toNat_zero, Nat.zero_add, Nat.add_zero, hm, hzf, w1, fo33_0, fo33_1, fo35_0, fo35_1, ti22, ti3, ti35, ti4, us9]; (all_goals fail_if_success show False)))
    all_goals first | exact Out.flat' rfl | (simp only [ByteArray.size_append, ByteArray.size_extract, h1]; omega) | fail
  · obtain rfl : k = 0 := by omega
    obtain rfl : z = ByteArray.empty := ByteArray.size_eq_zero_iff.1 (by omega)
    rw [ByteArray.empty_append] at hy ⊢
    unfold dotB
    rw [if_neg hk0]
    cases ng
    all_goals (refine Ok.walk Tryz.func75 rfl ?_; simp only [startSt, show Tryz.f75.ntmps = 44 from rfl, List.length_cons, List.length_nil, Nat.reduceAdd, Nat.reduceSub, List.replicate, List.cons_append, List.nil_append])
    all_goals (repeat' first | ((with_reducible show _ + _ ≤ 9223372036854775807); (simp only [h1]; omega)) | (with_reducible first | refine W.seq ?_ | refine W.region ?_ | refine W_ret ?_ | refine W_skip ?_ | refine Seq.normal ?_ | refine Seq.ret ?_ | refine aops_nil ?_) | ((with_reducible apply aops_callF); (case hg => exact rfl); (case ho => exact rfl); (case hc => exact rfl); (case hf => exact rfl); (case hok => first | exact hO | exact hF); (case hcal => first | assumption | kernel_rfl); (case hcl => (with_reducible simp only [List.map_cons, List.map_nil, List.forall_mem_cons, St.eval, List.getD_cons_zero, List.getD_cons_succ]); (repeat' with_reducible first | exact Cln.b _ | exact cln_strs | exact cln_wts | exact cln_vI | exact cln_nil | refine And.intro ?_ ?_ | refine Cln.agg ?_ | rw [List.forall_mem_cons])); (case' h => dsimp only [put, List.set])) | ((with_reducible refine aops_run ?_ (fun K' hK' => ?_)); exact rfl) | ((with_reducible refine hK' _ _ ?_); clear hK'; dsimp only [put, List.set]) | ((with_reducible apply W_cond); (case hc => exact rfl); (case' h2 => (intro hc; replace hc := of_decide_eq_false hc)); (case' h1 => (intro hc; replace hc := of_decide_eq_true hc)); all_goals try (exfalso; first | omega | exact hc rfl | exact hc trivial | exact Bool.noConfusion hc)) | ((with_reducible apply W_cond); (case hc => exact rfl); (case' h2 => (intro hc; replace hc := nbF hc)); (case' h1 => (intro hc; replace hc := nbT hc)); all_goals try (exfalso; first | omega | exact hc rfl | exact hc trivial | exact Bool.noConfusion hc)) | ((with_reducible apply W_cond); (case hc => exact rfl); all_goals intro hc; all_goals try (exfalso; first | omega | exact hc rfl | exact hc trivial | exact Bool.noConfusion hc)) | (with_reducible first | refine And.intro ?_ ?_) | ((with_reducible first | refine Ends.ret ?_ | refine Ends.normal ?_); simp only [aRes, show Tryz.f75.results.toList = [.tmp 2] from rfl, aRess, aResV, oneOf, List.getD_cons_zero, List.getD_cons_succ, if_true]) | (simp only [aop, St.eval, List.getD_cons_zero, List.getD_cons_succ, aBin, binI, binS, aUn, aLoad, loadPV_one, loadPV_agg, aField, cellsOf, upd, Nat.mul_one, List.length_cons, List.length_nil, List.drop_zero, List.drop_succ_cons, List.take_succ_cons, List.take_zero, if_true, if_false, Bool.false_eq_true, true_and, Nat.reduceAdd, Nat.reduceMul, Nat.reduceLT, Nat.reduceLeDiff, Nat.zero_add, Nat.add_zero, fo33_0, fo33_1, fo35_0, fo35_1, ti22, ti3, ti35, ti4]; (all_goals fail_if_success show False)))
    all_goals first | exact Out.flat' rfl | (simp only [ByteArray.size_append, ByteArray.size_extract, h1]; omega) | fail
end Go.Proofs.YtneapbfomhalpaaGreatDoor.T
