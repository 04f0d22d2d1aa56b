/- Walks of the laws' helpers, part 4: the texts of marks. -/
import Derived.Test.YtknciobaifdafaaGreatDoorQD
set_option linter.unusedVariables false
set_option maxRecDepth 100000
set_option maxHeartbeats 4000000
set_option linter.unusedSimpArgs false
namespace Go.Proofs.YtknciobaifdafaaGreatDoor.T
open Go Go.Pv Go.Proofs.YtknciobaifdafaaGreatDoor.EF
/-- The text of a mark. -/
def markB (k : Int) : ByteArray := if k ≤ 0 then ⟨#[109, 48]⟩ else ⟨#[109]⟩ ++ itoaB k
theorem B_nil (b : ByteArray) : b ++ (⟨#[]⟩ : ByteArray) = b := by
  apply ByteArray.ext
  rw [ByteArray.data_append]
  simp
theorem B_assoc (a b c : ByteArray) : a ++ b ++ c = a ++ (b ++ c) := by
  apply ByteArray.ext
  rw [ByteArray.data_append, ByteArray.data_append, ByteArray.data_append, ByteArray.data_append, Array.append_assoc]
theorem markText_ok (k : Int) (h : k ≤ 9223372036854775807) : Ok Tryz.prog 61 [vI k] (vS (markB k)) [] := by
  refine Ok.walk Tryz.func61 rfl ?_; simp only [startSt, show Tryz.f61.ntmps = 20 from rfl, List.length_cons, List.length_nil, Nat.reduceAdd, Nat.reduceSub, List.replicate, List.cons_append, List.nil_append]
  repeat' first | (with_reducible first | refine W.seq ?_ | refine W.region ?_ | refine W_ret ?_ | refine W_skip ?_ | refine W.block ?_ | refine Seq.normal ?_ | refine Seq.ret ?_ | refine aops_nil ?_) | ((with_reducible refine aops_run ?_ (fun K' hK' => ?_)); exact rfl) | ((with_reducible refine hK' _ _ ?_); clear hK'; dsimp only [put, List.set]) | ((with_reducible apply W_cond); (case hc => exact rfl); (case' h2 => (intro hc; replace hc := of_decide_eq_false hc)); (case' h1 => (intro hc; replace hc := of_decide_eq_true hc)); all_goals try (exfalso; first | omega | exact hc rfl | exact hc trivial | exact Bool.noConfusion hc)) | ((with_reducible first | refine Ends.ret ?_ | refine Ends.normal ?_); simp only [aRes, show Tryz.f61.results.toList = [.tmp 2] from rfl, aRess, aResV, oneOf, List.getD_cons_zero, List.getD_cons_succ]) | (simp only [aop, St.eval, List.getD_cons_zero, List.getD_cons_succ, aBin, binI, true_and]; (all_goals fail_if_success show False))
  · exact Out.flat' (by unfold markB; rw [if_pos hc])
  obtain ⟨n0, hn0⟩ : ∃ n0 : Nat, k = n0 := ⟨k.toNat, by omega⟩
  subst hn0
  have hsz := itoaB_size n0 (by omega) (by omega)
  refine W.loop (fun x : Nat × ByteArray => ⟨[vI x.1, .any, .any, vS x.2, .any, .any, .any, .any, .any, .any, .any, .any, .any, .any, .any, .any, .any, .any, .any, .any], noMem⟩) (fun x => x.1 ≤ n0 ∧ x.2.size ≤ 20 ∧ (0 < x.1 → itoaB x.1 ++ x.2 = itoaB n0) ∧ (x.1 = 0 → x.2 = itoaB n0)) (fun x => x.1) (n0, ⟨#[]⟩) ?wk0 ⟨Nat.le_refl _, Nat.zero_le _, fun _ => B_nil _, fun h => by dsimp only at h; omega⟩ (fun x hx => ?_)
  case wk0 => exact Weak.flat rfl (by simp [All2, vw, vwA, vwC, clean_b, vS])
  obtain ⟨m, out⟩ := x
  obtain ⟨h1, h2, h3, h4⟩ := hx
  dsimp only at h1 h2 h3 h4 ⊢
  have hms := itoaB_size m (by omega) (by omega)
  repeat' first | (with_reducible first | refine W.seq ?_ | refine W.region ?_ | refine W_ret ?_ | refine W_skip ?_ | refine W_exit ?_ | refine W.block ?_ | refine Seq.normal ?_ | refine Seq.exit ?_ | refine Blk.normal ?_ | refine Blk.same ?_ | refine Rnd.exit ?_ | refine aops_nil ?_) | ((with_reducible refine aops_run ?_ (fun K' hK' => ?_)); exact rfl) | ((with_reducible refine hK' _ _ ?_); clear hK'; dsimp only [put, List.set]) | ((with_reducible apply W_cond); (case hc => exact rfl); (case' h2 => (intro hc; replace hc := of_decide_eq_false hc)); (case' h1 => (intro hc; replace hc := of_decide_eq_true hc)); all_goals try (exfalso; first | omega | exact hc rfl | exact hc trivial | exact Bool.noConfusion hc)) | (with_reducible first | refine And.intro ?_ ?_) | ((with_reducible first | show (_ : Int) < _ | show (_ : Int) ≤ _ | show (_ : Int) ≠ _ | show (_ : Nat) < _ | show (_ : Nat) ≤ _ | show (_ : Nat) ≠ _); omega) | ((with_reducible show _ ≤ maxLen); simp only [maxLen]; omega) | ((with_reducible show _ + _ ≤ 9223372036854775807); (simp only [ofInts_size, bytes_size, List.length_cons, List.length_nil, List.size_toArray]; omega)) | ((with_reducible first | refine Ends.ret ?_ | refine Ends.normal ?_); simp only [aRes, show Tryz.f61.results.toList = [.tmp 2] from rfl, aRess, aResV, oneOf, List.getD_cons_zero, List.getD_cons_succ]) | (simp only [aop, St.eval, List.getD_cons_zero, List.getD_cons_succ, aBin, binI, binS, aBuildSlice, aSrc, aConv, cellsOf, storeL, fillPV, zrep, toBytes, upd, Nat.mul_one, List.map_cons, List.map_nil, List.length_cons, List.length_nil, List.drop_zero, List.take_succ_cons, List.take_zero, List.set_cons_zero, List.append_nil, Option.map_some, Option.bind_some, if_true, true_and, Nat.reduceAdd, Nat.reduceMul, Nat.reduceLeDiff, Value.cells, and_self, Nat.zero_add, by46, se46, ui3, ui5, us9]; (all_goals fail_if_success show False))
  · have hm : 0 < m := by omega
    have e : (m : Int).tmod 10 = ((m % 10 : Nat) : Int) := by rw [Int.tmod_eq_emod_of_nonneg (by omega)]; simp
    have hnew : 0 < m / 10 → itoaB ((m / 10 : Nat) : Int) ++ (ofInts [((48 + m % 10 : Nat) : Int)] ++ out) = itoaB n0 := fun h => by
      rw [← B_assoc, ← itoaB_step (by omega)]; exact h3 hm
    have hnew0 : m / 10 = 0 → ofInts [((48 + m % 10 : Nat) : Int)] ++ out = itoaB n0 := fun h => by
      rw [show m % 10 = m by omega, ← itoaB_small (by omega)]; exact h3 hm
    have hsz2 : (ofInts [((48 + m % 10 : Nat) : Int)] ++ out).size ≤ 20 := by
      by_cases h : 0 < m / 10
      · have := congrArg ByteArray.size (hnew h)
        rw [ByteArray.size_append] at this
        omega
      · rw [hnew0 (by omega)]; exact hsz
    refine Rnd.normal (m / 10, ofInts [((48 + m % 10 : Nat) : Int)] ++ out) ⟨by dsimp only; omega, hsz2, hnew, hnew0⟩ (by dsimp only; omega) ?_
    rw [show (10 : Int) = ((10 : Nat) : Int) from rfl, tdiv_wrap (by omega), show ((10 : Nat) : Int) = 10 from rfl, e, wrap_id (x := 48 + ((m % 10 : Nat) : Int)) (by omega) (by omega), show (48 : Int) + ((m % 10 : Nat) : Int) = ((48 + m % 10 : Nat) : Int) by omega, u8wrap (by omega)]
    exact Weak.flat rfl (by simp [All2, vw, vwA, vwC, clean_b, vS])
  · exact Out.flat' (by unfold markB; rw [if_neg (by omega), h4 (by omega)])
/-- What is told of texts that should be marks from k on. -/
def heldS (l : List ByteArray) (k : Int) : Int := if anyTo (fun j => decide (l.getD j ByteArray.empty ≠ markB (k + j))) l.length = true then -1 else k + l.length
theorem heldS_ok (l : List ByteArray) (k : Int) (h0 : 0 ≤ k ∧ k ≤ 1000000000000) (hl : l.length ≤ 2000000) : Ok Tryz.prog 63 [.val l.length (l.map vS), vI k] (vI (heldS l k)) [] := by
  obtain ⟨M, hM⟩ : ∃ M : Int → ByteArray, M = markB := ⟨_, rfl⟩
  have hm : ∀ z : Int, z ≤ 9223372036854775807 → Ok Tryz.prog 61 [vI z] (vS (M z)) [] := fun z hz => hM ▸ markText_ok z hz
  unfold heldS
  rw [← hM]
  refine Ok.walk Tryz.func63 rfl ?_; simp only [startSt, show Tryz.f63.ntmps = 22 from rfl, List.length_cons, List.length_nil, Nat.reduceAdd, Nat.reduceSub, List.replicate, List.cons_append, List.nil_append]
  repeat' first | (with_reducible first | refine W.seq ?_ | refine W.region ?_ | refine W.block ?_ | refine Seq.normal ?_ | refine aops_nil ?_) | ((with_reducible refine aops_run ?_ (fun K' hK' => ?_)); exact rfl) | ((with_reducible refine hK' _ _ ?_); clear hK'; dsimp only [put, List.set]) | (simp only [aop, St.eval]; (all_goals fail_if_success show False))
  refine W.loop (fun i : Nat => ⟨[.val l.length (l.map vS), vI (k + i), .any, .any, .any, vI i, .any, .any, .any, .any, .any, .any, .any, .any, .any, .any, .any, .any, .any, .any, .any, .any], noMem⟩) (fun i => i ≤ l.length ∧ anyTo (fun j => decide (l.getD j ByteArray.empty ≠ M (k + j))) i = false) (fun i => l.length - i) 0 ?wk0 ⟨Nat.zero_le _, rfl⟩ (fun i hi => ?_)
  case wk0 => exact Weak.flat rfl (by simp [All2, vw, vwA, vwC, clean_b, clean_strs])
  obtain ⟨hi, hno⟩ := hi
  repeat' first | (with_reducible first | refine W.seq ?_ | refine W.region ?_ | refine W_ret ?_ | refine W_skip ?_ | refine W_exit ?_ | refine W.block ?_ | refine Seq.normal ?_ | refine Seq.ret ?_ | refine Seq.exit ?_ | refine Blk.normal ?_ | refine Blk.same ?_ | refine Blk.ret ?_ | refine Rnd.exit ?_ | refine Rnd.ret ?_ | refine aops_nil ?_ | refine aheadU_nil ?_ | refine load_strs ?_ ?_) | ((with_reducible apply ahead_callF); (case hg => exact rfl); (case ho => exact rfl); (case hc => exact rfl); (case hf => exact rfl); (case hok => first | exact hm _ (by omega)); (case hcal => first | assumption | kernel_rfl); (case hcl => (with_reducible simp only [List.map_cons, List.map_nil, List.forall_mem_cons, St.eval, List.getD_cons_zero, List.getD_cons_succ]); (repeat' with_reducible first | exact Cln.b _ | exact cln_strs | exact cln_wts | exact cln_nil | refine And.intro ?_ ?_ | refine Cln.agg ?_ | rw [List.forall_mem_cons])); (case' h => dsimp only [putL, List.set])) | ((with_reducible refine aops_run ?_ (fun K' hK' => ?_)); exact rfl) | ((with_reducible refine aheadU_run ?_ ?_ ?_ (fun K' hA' => ?_)); exact rfl; exact rfl; exact rfl) | ((with_reducible refine hA'.1 _ ?_); clear hA'; dsimp only [putL, List.set]) | ((with_reducible refine W.drawU (id := 4) (n := 7) mixed ?_ ?_ ?_ ?_); kernel_rfl; (simp only [List.length_cons, List.length_nil]; omega); (intro k h1 h2; first | rfl | ((try simp only [rowsAt, impRows, List.map_nil]); (repeat rw [upd_ne _ _ (by omega)]) <;> rfl) | (simp only [upd]; (repeat' split) <;> first | rfl | omega)); dsimp only [List.take, List.drop]) | ((with_reducible refine hK' _ _ ?_); clear hK'; dsimp only [put, List.set]) | ((with_reducible apply W_cond); (case hc => exact rfl); (case' h2 => (intro hc; replace hc := of_decide_eq_false hc)); (case' h1 => (intro hc; replace hc := of_decide_eq_true hc)); all_goals try (exfalso; first | omega | exact hc rfl | exact hc trivial | exact Bool.noConfusion hc)) | ((with_reducible apply W_cond); (case hc => exact rfl); (case' h2 => (intro hc; replace hc := ndF hc)); (case' h1 => (intro hc; replace hc := ndT hc)); all_goals try (exfalso; first | omega | exact hc rfl | exact hc trivial | exact Bool.noConfusion hc)) | (with_reducible first | refine And.intro ?_ ?_) | ((with_reducible first | show (_ : Int) < _ | show (_ : Int) ≤ _ | show (_ : Int) ≠ _ | show (_ : Nat) < _ | show (_ : Nat) ≤ _ | show (_ : Nat) ≠ _); omega) | ((with_reducible first | refine Ends.ret ?_ | refine Ends.normal ?_); simp only [aRes, show Tryz.f63.results.toList = [.tmp 4] from rfl, aRess, aResV, oneOf, List.getD_cons_zero, List.getD_cons_succ]) | (simp only [aop, Option.isSome_some, St.eval, List.getD_cons_zero, List.getD_cons_succ, aBin, binI, binS, aLoad, aIndex, aLen, aBuiltin, addU, Int.toNat_natCast, Nat.mul_one, List.map_cons, List.map_nil, true_and, se22, ti9]; (all_goals fail_if_success show False))
  · exact Out.flat' (congrArg (Value.int .i64) (by rw [if_pos (anyTo_hit (k := i) (by omega) (decide_eq_true hc))]))
  · refine Rnd.normal (i + 1) ⟨by omega, by unfold anyTo; rw [hno, Bool.false_or, decide_eq_false_iff_not]; exact fun h => h hc⟩ (by omega) ?_
    rw [wrap_id (x := (i : Int) + 1) (by omega) (by omega), wrap_id (x := k + (i : Int) + 1) (by omega) (by omega), show k + (i : Int) + 1 = k + ((i + 1 : Nat) : Int) by omega]
    exact Weak.flat rfl (by simp [All2, vw, vwA, vwC, clean_b, clean_strs])
  · obtain rfl : i = l.length := by omega
    exact Out.flat' (congrArg (Value.int .i64) (by rw [if_neg (by rw [hno]; decide)]))
end Go.Proofs.YtknciobaifdafaaGreatDoor.T
