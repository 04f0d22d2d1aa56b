/- Walks of values, part 5: numbers as texts. -/
import Derived.Test.YtneapbfomhalpaaGreatDoorQVC
set_option linter.unusedVariables false
set_option maxRecDepth 100000
set_option maxHeartbeats 4000000
set_option linter.unusedSimpArgs false
namespace Go.Pv
def zeroS : Nat → ByteArray
  | 0 => ByteArray.empty
  | k + 1 => (⟨#[48]⟩ : ByteArray) ++ zeroS k
theorem zeroS_size : ∀ k, (zeroS k).size = k
  | 0 => rfl
  | k + 1 => by rw [zeroS, ByteArray.size_append, zeroS_size k]; show 1 + k = k + 1; omega
/-- A text with zeros ahead. -/
def padB (s : ByteArray) (w : Nat) : ByteArray := zeroS (w - s.size) ++ s
/-- The figures of limbs, the top k + 1 of them. -/
def figK (l : List Int) : Nat → ByteArray
  | 0 => itoaB (l.getD (l.length - 1) 0)
  | k + 1 => figK l k ++ padB (itoaB (l.getD (l.length - 2 - k) 0)) 4
def figL (l : List Int) : ByteArray := if l.length = 0 then ⟨#[48]⟩ else figK l (l.length - 1)
theorem padB_size {s : ByteArray} {w : Nat} : (padB s w).size = max w s.size := by unfold padB; rw [ByteArray.size_append, zeroS_size]; omega
theorem figK_size {l : List Int} (hl : ∀ k, 0 ≤ l.getD k 0 ∧ l.getD k 0 ≤ 9999) : ∀ k, (figK l k).size ≤ 20 + 20 * k
  | 0 => by have := hl (l.length - 1); exact itoaB_size _ (by omega) (by omega)
  | k + 1 => by
    have h1 := figK_size hl k
    have h2 := hl (l.length - 2 - k)
    have h3 := itoaB_size (l.getD (l.length - 2 - k) 0) (by omega) (by omega)
    rw [figK, ByteArray.size_append, padB_size]
    omega
end Go.Pv
namespace Go.Proofs.YtneapbfomhalpaaGreatDoor.T
open Go Go.Pv Go.Proofs.YtneapbfomhalpaaGreatDoor.EF
theorem l1Dec_pos (n : Nat) (h : (n : Int) ≤ 9223372036854775807) : Ok Tryz.prog 69 [vI n] (vS (itoaB n)) [] := by
  revert h
  refine Nat.strongRecOn n fun n ih h => ?_
  have ihd : 10 ≤ n → Ok Tryz.prog 69 [vI (IntKind.i64.wrap ((n : Int).tdiv 10))] (vS (itoaB (n / 10 : Nat))) [] := fun hn => by
    rw [show (10 : Int) = ((10 : Nat) : Int) from rfl, tdiv_wrap h]
    exact ih _ (by omega) (by omega)
  have hs := itoaB_size (n / 10 : Nat) (by omega) (by have : n / 10 ≤ n := Nat.div_le_self ..; omega)
  refine Ok.walk Tryz.func69 rfl ?_; simp only [startSt, show Tryz.f69.ntmps = 28 from rfl, List.length_cons, List.length_nil, Nat.reduceAdd, Nat.reduceSub, List.replicate, List.cons_append, List.nil_append]
  repeat' first | (with_reducible first | refine W.seq ?_ | refine W.region ?_ | refine W_ret ?_ | refine W_skip ?_ | refine Seq.normal ?_ | refine Seq.ret ?_ | refine aops_nil ?_ | refine aheadU_nil ?_) | ((with_reducible apply ahead_callF); (case hg => exact rfl); (case ho => exact rfl); (case hc => exact rfl); (case hf => exact rfl); (case hok => first | exact ihd (by omega)); (case hcal => first | assumption | kernel_rfl); (case hcl => (with_reducible simp only [List.map_cons, List.map_nil, List.forall_mem_cons, St.eval, List.getD_cons_zero, List.getD_cons_succ]); (repeat' with_reducible first | exact Cln.b _ | exact cln_strs | exact cln_wts | exact cln_vI | exact cln_nil | refine And.intro ?_ ?_ | refine Cln.agg ?_ | rw [List.forall_mem_cons])); (case' h => dsimp only [putL, List.set])) | ((with_reducible refine aops_run ?_ (fun K' hK' => ?_)); exact rfl) | ((with_reducible show aheadU _ _ _ _ _ ({ dst := some 26, op := _, type := _, pos := _, after := _, guard := _ } :: _) _ _ _); (with_reducible refine aheadU_run1 _ 7 (List.mem_cons_self ..) ?_ ?_ ?_ ?_ ?_ ?_ ?_ (fun K' hK' => ?_)); (constructor <;> (dsimp only; omega)); kernel_rfl; (simp only [addU, upd, if_true]); decide; rfl; rfl; rfl) | ((with_reducible refine aheadU_run ?_ ?_ ?_ (fun K' hA' => ?_)); exact rfl; exact rfl; exact rfl) | ((with_reducible refine hA'.1 _ ?_); clear hA'; dsimp only [putL, List.set]) | ((with_reducible refine hA'.2 _ _ _ ?_); clear hA'; dsimp only [putL, List.set]) | ((with_reducible refine W.drawU (id := 7) (n := 11) mixed ?_ ?_ ?_ ?_); kernel_rfl; (simp only [List.length_cons, List.length_nil]; omega); (intro k h1 h2; first | rfl | ((try simp only [rowsAt, impRows, List.map_nil]); (repeat rw [upd_ne _ _ (by omega)]) <;> rfl) | (simp only [upd]; (repeat' split) <;> first | rfl | omega)); dsimp only [List.take, List.drop]) | ((with_reducible refine hK' _ _ ?_); clear hK'; dsimp only [put, List.set]) | ((with_reducible refine hK' _ ?_); clear hK'; dsimp only [putL, List.set]) | ((with_reducible apply W_cond); (case hc => exact rfl); (case' h2 => (intro hc; replace hc := of_decide_eq_false hc)); (case' h1 => (intro hc; replace hc := of_decide_eq_true hc)); all_goals try (exfalso; first | omega | exact hc rfl | exact hc trivial | exact Bool.noConfusion hc)) | (with_reducible first | refine And.intro ?_ ?_) | ((with_reducible first | show (_ : Int) < _ | show (_ : Int) ≤ _ | show (_ : Int) ≠ _ | show (_ : Nat) < _ | show (_ : Nat) ≤ _ | show (_ : Nat) ≠ _); omega) | ((with_reducible show _ ≤ maxLen); simp only [maxLen]; omega) | ((with_reducible show _ + _ ≤ 9223372036854775807); (simp only [ofInts_size, List.length_cons, List.length_nil]; omega)) | ((with_reducible first | refine Ends.ret ?_ | refine Ends.normal ?_); simp only [aRes, show Tryz.f69.results.toList = [.tmp 2] from rfl, aRess, aResV, oneOf, List.getD_cons_zero, List.getD_cons_succ, addU, Nat.reduceAdd]) | (simp only [aop, St.eval, List.getD_cons_zero, List.getD_cons_succ, aBin, binI, binS, aBuildSlice, aSrc, aConv, cellsOf, storeL, fillPV, zrep, toBytes, upd, Nat.mul_one, List.map_cons, List.map_nil, List.length_cons, List.length_nil, List.drop_zero, List.take_succ_cons, List.take_zero, List.set_cons_zero, List.append_nil, Option.map_some, Option.bind_some, if_true, true_and, Nat.reduceAdd, Nat.reduceMul, Nat.reduceLeDiff, Value.cells, and_self, Nat.zero_add, by68, se68, ui3, ui5, us9]; (all_goals fail_if_success show False))
  · refine Out.flat' ?_
    rw [wrap_id (by omega) (by omega), show (48 : Int) + (n : Int) = ((48 + n : Nat) : Int) by omega, u8wrap (by omega), ← itoaB_small (by omega)]
  · refine Out.flat' ?_
    have e : (n : Int).tmod 10 = ((n % 10 : Nat) : Int) := by rw [Int.tmod_eq_emod_of_nonneg (by omega)]; simp
    rw [e, wrap_id (by omega) (by omega), show (48 : Int) + ((n % 10 : Nat) : Int) = ((48 + n % 10 : Nat) : Int) by omega, u8wrap (by omega), ← itoaB_step (by omega)]
theorem l1Dec_ok (n : Int) (h0 : -9223372036854775807 ≤ n) (h1 : n ≤ 9223372036854775807) : Ok Tryz.prog 69 [vI n] (vS (itoaB n)) [] := by
  by_cases hn : 0 ≤ n
  · have := l1Dec_pos n.toNat (by omega)
    rwa [Int.toNat_of_nonneg hn] at this
  have hm : Ok Tryz.prog 69 [vI (IntKind.i64.wrap (0 - n))] (vS (itoaB (-n))) [] := by
    rw [wrap_id (by omega) (by omega), Int.zero_sub]
    have := l1Dec_pos (-n).toNat (by omega)
    rwa [Int.toNat_of_nonneg (by omega)] at this
  have hs := itoaB_size (-n) (by omega) (by omega)
  refine Ok.walk Tryz.func69 rfl ?_; simp only [startSt, show Tryz.f69.ntmps = 28 from rfl, List.length_cons, List.length_nil, Nat.reduceAdd, Nat.reduceSub, List.replicate, List.cons_append, List.nil_append]
  repeat' first | (with_reducible first | refine W.seq ?_ | refine W.region ?_ | refine W_ret ?_ | refine W_skip ?_ | refine Seq.normal ?_ | refine Seq.ret ?_ | refine aops_nil ?_) | ((with_reducible apply aops_callF); (case hg => exact rfl); (case ho => exact rfl); (case hc => exact rfl); (case hf => exact rfl); (case hok => first | exact hm); (case hcal => first | assumption | kernel_rfl); (case hcl => (with_reducible simp only [List.map_cons, List.map_nil, List.forall_mem_cons, St.eval, List.getD_cons_zero, List.getD_cons_succ]); (repeat' with_reducible first | exact Cln.b _ | exact cln_strs | exact cln_wts | exact cln_vI | exact cln_nil | refine And.intro ?_ ?_ | refine Cln.agg ?_ | rw [List.forall_mem_cons])); (case' h => dsimp only [put, List.set])) | ((with_reducible refine aops_run ?_ (fun K' hK' => ?_)); exact rfl) | ((with_reducible refine hK' _ _ ?_); clear hK'; dsimp only [put, List.set]) | ((with_reducible apply W_cond); (case hc => exact rfl); (case' h2 => (intro hc; replace hc := of_decide_eq_false hc)); (case' h1 => (intro hc; replace hc := of_decide_eq_true hc)); all_goals try (exfalso; first | omega | exact hc rfl | exact hc trivial | exact Bool.noConfusion hc)) | (with_reducible first | refine And.intro ?_ ?_) | ((with_reducible show _ + _ ≤ 9223372036854775807); (simp only [bytes_size, List.length_cons, List.length_nil, List.size_toArray]; omega)) | ((with_reducible first | refine Ends.ret ?_ | refine Ends.normal ?_); simp only [aRes, show Tryz.f69.results.toList = [.tmp 2] from rfl, aRess, aResV, oneOf, List.getD_cons_zero, List.getD_cons_succ]) | (simp only [aop, St.eval, List.getD_cons_zero, List.getD_cons_succ, aBin, binI, binS, aUn, true_and]; (all_goals fail_if_success show False))
  exact Out.flat' (congrArg _ (itoaB_neg (by omega)).symm)
theorem l1Wide_ok (n : Int) (w : Nat) (h0 : 0 ≤ n) (h1 : n ≤ 9223372036854775807) (hw : w ≤ 1000000) : Ok Tryz.prog 66 [vI n, vI w] (vS (padB (itoaB n) w)) [] := by
  have hd := l1Dec_ok n (by omega) h1
  have hs := itoaB_size n (by omega) h1
  unfold padB
  generalize itoaB n = s at hd hs ⊢
  refine Ok.walk Tryz.func66 rfl ?_; simp only [startSt, show Tryz.f66.ntmps = 15 from rfl, List.length_cons, List.length_nil, Nat.reduceAdd, Nat.reduceSub, List.replicate, List.cons_append, List.nil_append]
  repeat' first | (with_reducible first | refine W.seq ?_ | refine W.region ?_ | refine W.block ?_ | refine Seq.normal ?_ | refine aops_nil ?_) | ((with_reducible apply aops_callF); (case hg => exact rfl); (case ho => exact rfl); (case hc => exact rfl); (case hf => exact rfl); (case hok => first | exact hd); (case hcal => first | assumption | kernel_rfl); (case hcl => (with_reducible simp only [List.map_cons, List.map_nil, List.forall_mem_cons, St.eval, List.getD_cons_zero, List.getD_cons_succ]); (repeat' with_reducible first | exact Cln.b _ | exact cln_strs | exact cln_wts | exact cln_vI | exact cln_nil | refine And.intro ?_ ?_ | refine Cln.agg ?_ | rw [List.forall_mem_cons])); (case' h => dsimp only [put, List.set])) | ((with_reducible refine aops_run ?_ (fun K' hK' => ?_)); exact rfl) | ((with_reducible refine hK' _ _ ?_); clear hK'; dsimp only [put, List.set]) | (simp only [aop, St.eval, List.getD_cons_zero, List.getD_cons_succ]; (all_goals fail_if_success show False))
  refine W.loop (fun j : Nat => ⟨[.any, vI w, .any, .any, .any, vS (zeroS j ++ s), .any, .any, .any, .any, .any, .any, .any, .any, .any], noMem⟩) (fun j => j ≤ w - s.size) (fun j => w - j) 0 ?wk0 (Nat.zero_le _) (fun j hj => ?_)
  case wk0 => rw [show zeroS 0 ++ s = s by rw [zeroS, ByteArray.empty_append]]; exact Weak.flat rfl (by simp [All2, vw, vwA, vwC, clean_b, vS])
  have hz : (zeroS j ++ s).size = j + s.size := by rw [ByteArray.size_append, zeroS_size]
  have hz2 : (⟨#[48]⟩ : ByteArray) ++ (zeroS j ++ s) = zeroS (j + 1) ++ s := by rw [zeroS, ByteArray.append_assoc]
  generalize hy : zeroS j ++ s = y at hz hz2 ⊢
  repeat' first | (with_reducible first | refine W.seq ?_ | refine W.region ?_ | refine W_ret ?_ | refine W_skip ?_ | refine W_exit ?_ | refine W.block ?_ | refine Seq.normal ?_ | refine Seq.exit ?_ | refine Blk.normal ?_ | refine Blk.same ?_ | refine Rnd.exit ?_ | refine aops_nil ?_) | ((with_reducible refine aops_run ?_ (fun K' hK' => ?_)); exact rfl) | ((with_reducible refine hK' _ _ ?_); clear hK'; dsimp only [put, List.set]) | ((with_reducible apply W_cond); (case hc => exact rfl); (case' h2 => (intro hc; replace hc := of_decide_eq_false hc)); (case' h1 => (intro hc; replace hc := of_decide_eq_true hc)); all_goals try (exfalso; first | omega | exact hc rfl | exact hc trivial | exact Bool.noConfusion hc)) | (with_reducible first | refine And.intro ?_ ?_) | ((with_reducible show _ + _ ≤ 9223372036854775807); (simp only [bytes_size, List.length_cons, List.length_nil, List.size_toArray]; omega)) | ((with_reducible first | refine Ends.ret ?_ | refine Ends.normal ?_); simp only [aRes, show Tryz.f66.results.toList = [.tmp 4] from rfl, aRess, aResV, oneOf, List.getD_cons_zero, List.getD_cons_succ]) | (simp only [aop, St.eval, List.getD_cons_zero, List.getD_cons_succ, aBin, binI, binS, aLen, aBuiltin, List.map_cons, List.map_nil, true_and, us9]; (all_goals fail_if_success show False))
  · refine Rnd.normal (j + 1) (by omega) (by omega) ?_
    rw [← hz2]
    exact Weak.flat rfl (by simp [All2, vw, vwA, vwC, clean_b, vS])
  · have : j = w - s.size := by omega
    subst this
    exact Out.flat' (congrArg Value.string hy.symm)
theorem l1Figures_ok (l : List Int) (hl : ∀ k, 0 ≤ l.getD k 0 ∧ l.getD k 0 ≤ 9999) (hn : l.length ≤ 10000) : Ok Tryz.prog 85 [.val l.length (l.map vI)] (vS (figL l)) [] := by
  by_cases h0 : l.length = 0
  · unfold figL
    rw [if_pos h0]
    refine Ok.walk Tryz.func85 rfl ?_; simp only [startSt, show Tryz.f85.ntmps = 30 from rfl, List.length_cons, List.length_nil, Nat.reduceAdd, Nat.reduceSub, List.replicate, List.cons_append, List.nil_append]
    repeat' first | (with_reducible first | refine W.seq ?_ | refine W.region ?_ | refine W_ret ?_ | refine Seq.normal ?_ | refine Seq.ret ?_ | refine aops_nil ?_) | ((with_reducible refine aops_run ?_ (fun K' hK' => ?_)); exact rfl) | ((with_reducible refine hK' _ _ ?_); clear hK'; dsimp only [put, List.set]) | ((with_reducible apply W_cond); (case hc => exact rfl); (case' h2 => (intro hc; replace hc := of_decide_eq_false hc)); (case' h1 => (intro hc; replace hc := of_decide_eq_true hc)); all_goals try (exfalso; first | omega | exact hc rfl | exact hc trivial | exact Bool.noConfusion hc)) | ((with_reducible first | refine Ends.ret ?_ | refine Ends.normal ?_); simp only [aRes, show Tryz.f85.results.toList = [.tmp 2] from rfl, aRess, aResV, oneOf, List.getD_cons_zero, List.getD_cons_succ]) | (simp only [aop, Option.isSome_some, St.eval, List.getD_cons_zero, List.getD_cons_succ, aBin, binI, aLen, aBuiltin, List.map_cons, List.map_nil, true_and, se22]; (all_goals fail_if_success show False))
    all_goals exact Out.flat' rfl
  · unfold figL
    rw [if_neg h0]
    have hlast := hl (l.length - 1)
    have hd := l1Dec_ok (l.getD (l.length - 1) 0) (by omega) (by omega)
    have w1 : IntKind.i64.wrap ((l.length : Int) - 1) = ((l.length - 1 : Nat) : Int) := by rw [wrap_id (by omega) (by omega)]; omega
    have w2 : IntKind.i64.wrap ((l.length : Int) - 2) = (l.length : Int) - 2 := wrap_id (by omega) (by omega)
    rw [show itoaB (l.getD (l.length - 1) 0) = figK l 0 from rfl] at hd
    refine Ok.walk Tryz.func85 rfl ?_; simp only [startSt, show Tryz.f85.ntmps = 30 from rfl, List.length_cons, List.length_nil, Nat.reduceAdd, Nat.reduceSub, List.replicate, List.cons_append, List.nil_append]
    repeat' first | ((with_reducible refine load_ints ?_ ?_)) | (with_reducible first | refine W.seq ?_ | refine W.region ?_ | refine W_skip ?_ | refine W.block ?_ | refine Seq.normal ?_ | refine aops_nil ?_) | ((with_reducible apply aops_callF); (case hg => exact rfl); (case ho => exact rfl); (case hc => exact rfl); (case hf => exact rfl); (case hok => first | exact hd); (case hcal => first | assumption | kernel_rfl); (case hcl => (with_reducible simp only [List.map_cons, List.map_nil, List.forall_mem_cons, St.eval, List.getD_cons_zero, List.getD_cons_succ]); (repeat' with_reducible first | exact Cln.b _ | exact cln_strs | exact cln_wts | exact cln_vI | exact cln_nil | refine And.intro ?_ ?_ | refine Cln.agg ?_ | rw [List.forall_mem_cons])); (case' h => dsimp only [put, List.set])) | ((with_reducible refine aops_run ?_ (fun K' hK' => ?_)); exact rfl) | ((with_reducible refine hK' _ _ ?_); clear hK'; dsimp only [put, List.set]) | ((with_reducible apply W_cond); (case hc => exact rfl); (case' h2 => (intro hc; replace hc := of_decide_eq_false hc)); (case' h1 => (intro hc; replace hc := of_decide_eq_true hc)); all_goals try (exfalso; first | omega | exact hc rfl | exact hc trivial | exact Bool.noConfusion hc)) | (with_reducible first | refine And.intro ?_ ?_) | ((with_reducible first | show (_ : Int) < _ | show (_ : Int) ≤ _ | show (_ : Int) ≠ _ | show (_ : Nat) < _ | show (_ : Nat) ≤ _ | show (_ : Nat) ≠ _); omega) | (simp only [aop, Option.isSome_some, St.eval, List.getD_cons_zero, List.getD_cons_succ, aBin, binI, aLoad, aIndex, aLen, aBuiltin, Int.toNat_natCast, Nat.mul_one, List.map_cons, List.map_nil, true_and, w1, w2, se22, ti3]; (all_goals fail_if_success show False))
    refine W.loop (fun k : Nat => ⟨[.val l.length (l.map vI), .any, .any, vS (figK l k), vI ((l.length : Int) - 2 - k), .any, .any, .any, .any, .any, .any, .any, .any, .any, .any, .any, .any, .any, .any, .any, .any, .any, .any, .any, .any, .any, .any, .any, .any, .any], noMem⟩) (fun k => k ≤ l.length - 1) (fun k => l.length - k) 0 ?wk0 (Nat.zero_le _) (fun k hk => ?_)
    case wk0 => rw [show (l.length : Int) - 2 - (0 : Nat) = (l.length : Int) - 2 by omega]; exact Weak.flat rfl (by simp [All2, vw, vwA, vwC, clean_b, vS, clean_ints])
    have hsz := figK_size hl k
    by_cases hlt : k < l.length - 1
    · have e1 : (l.length : Int) - 2 - k = ((l.length - 2 - k : Nat) : Int) := by omega
      have hb := hl (l.length - 2 - k)
      have hw := l1Wide_ok (l.getD (l.length - 2 - k) 0) 4 (by omega) (by omega) (by decide)
      have hp := itoaB_size (l.getD (l.length - 2 - k) 0) (by omega) (by omega)
      have hps : (padB (itoaB (l.getD (l.length - 2 - k) 0)) 4).size ≤ 20 := by rw [padB_size]; omega
      have ek : figK l k ++ padB (itoaB (l.getD (l.length - 2 - k) 0)) 4 = figK l (k + 1) := rfl
      have e2 : IntKind.i64.wrap (((l.length - 2 - k : Nat) : Int) - 1) = (l.length : Int) - 2 - (k + 1 : Nat) := by rw [wrap_id (by omega) (by omega)]; omega
      rw [e1]
      generalize padB (itoaB (l.getD (l.length - 2 - k) 0)) 4 = pb at hw hps ek
      generalize hix : l.length - 2 - k = ix at hw e2 ⊢
      have hixl : ix < l.length := by omega
      generalize figK l k = fk at hsz ek ⊢
      repeat' first | ((with_reducible show _ + _ ≤ 9223372036854775807); omega) | ((with_reducible refine load_ints ?_ ?_)) | (with_reducible first | refine W.seq ?_ | refine W.region ?_ | refine W_skip ?_ | refine W.block ?_ | refine Seq.normal ?_ | refine Blk.normal ?_ | refine aops_nil ?_) | ((with_reducible apply aops_callF); (case hg => exact rfl); (case ho => exact rfl); (case hc => exact rfl); (case hf => exact rfl); (case hok => first | exact hw); (case hcal => first | assumption | kernel_rfl); (case hcl => (with_reducible simp only [List.map_cons, List.map_nil, List.forall_mem_cons, St.eval, List.getD_cons_zero, List.getD_cons_succ]); (repeat' with_reducible first | exact Cln.b _ | exact cln_strs | exact cln_wts | exact cln_vI | exact cln_nil | refine And.intro ?_ ?_ | refine Cln.agg ?_ | rw [List.forall_mem_cons])); (case' h => dsimp only [put, List.set])) | ((with_reducible refine aops_run ?_ (fun K' hK' => ?_)); exact rfl) | ((with_reducible refine hK' _ _ ?_); clear hK'; dsimp only [put, List.set]) | ((with_reducible apply W_cond); (case hc => exact rfl); (case' h2 => (intro hc; replace hc := of_decide_eq_false hc)); (case' h1 => (intro hc; replace hc := of_decide_eq_true hc)); all_goals try (exfalso; first | omega | exact hc rfl | exact hc trivial | exact Bool.noConfusion hc)) | (with_reducible first | refine And.intro ?_ ?_) | ((with_reducible first | show (_ : Int) < _ | show (_ : Int) ≤ _ | show (_ : Int) ≠ _ | show (_ : Nat) < _ | show (_ : Nat) ≤ _ | show (_ : Nat) ≠ _); omega) | (simp only [aop, St.eval, List.getD_cons_zero, List.getD_cons_succ, aBin, binI, binS, aLoad, aIndex, Int.toNat_natCast, Nat.mul_one, true_and, se22, ti3]; (all_goals fail_if_success show False))
      refine Rnd.normal (k + 1) (by omega) (by omega) ?_
      rw [e2, ← ek]
      exact Weak.flat rfl (by simp [All2, vw, vwA, vwC, clean_b, vS, clean_ints])
    · obtain rfl : k = l.length - 1 := by omega
      rw [show (l.length : Int) - 2 - (l.length - 1 : Nat) = -1 by omega]
      repeat' first | (with_reducible first | refine W.seq ?_ | refine W.region ?_ | refine W_ret ?_ | refine W_exit ?_ | refine Seq.normal ?_ | refine Seq.exit ?_ | refine Blk.same ?_ | refine Rnd.exit ?_ | refine aops_nil ?_) | ((with_reducible refine aops_run ?_ (fun K' hK' => ?_)); exact rfl) | ((with_reducible refine hK' _ _ ?_); clear hK'; dsimp only [put, List.set]) | ((with_reducible apply W_cond); (case hc => exact rfl); (case' h2 => (intro hc; replace hc := of_decide_eq_false hc)); (case' h1 => (intro hc; replace hc := of_decide_eq_true hc)); all_goals try (exfalso; first | omega | exact hc rfl | exact hc trivial | exact Bool.noConfusion hc)) | ((with_reducible first | refine Ends.ret ?_ | refine Ends.normal ?_); simp only [aRes, show Tryz.f85.results.toList = [.tmp 2] from rfl, aRess, aResV, oneOf, List.getD_cons_zero, List.getD_cons_succ]) | (simp only [aop, St.eval, List.getD_cons_zero, List.getD_cons_succ, aBin, binI, true_and]; (all_goals fail_if_success show False))
      all_goals exact Out.flat' rfl
theorem l1Long_ok (l : List Int) (hl : ∀ k, 0 ≤ l.getD k 0 ∧ l.getD k 0 ≤ 9999) (hn : l.length ≤ 10000) : Ok Tryz.prog 64 [.val l.length (l.map vI)] (vI (if l.length = 0 then 0 else (figL l).size)) [] := by
  have hf := l1Figures_ok l hl hn
  have hs : (figL l).size ≤ 1000000 := by
    have := figK_size hl (l.length - 1)
    unfold figL
    split
    · decide
    · omega
  generalize figL l = f at hf hs ⊢
  by_cases h0 : l.length = 0
  · rw [if_pos h0]
    refine Ok.walk Tryz.func64 rfl ?_; simp only [startSt, show Tryz.f64.ntmps = 9 from rfl, List.length_cons, List.length_nil, Nat.reduceAdd, Nat.reduceSub, List.replicate, List.cons_append, List.nil_append]
    repeat' first | (with_reducible first | refine W.seq ?_ | refine W.region ?_ | refine W_ret ?_ | refine Seq.normal ?_ | refine Seq.ret ?_ | refine aops_nil ?_) | ((with_reducible refine aops_run ?_ (fun K' hK' => ?_)); exact rfl) | ((with_reducible refine hK' _ _ ?_); clear hK'; dsimp only [put, List.set]) | ((with_reducible apply W_cond); (case hc => exact rfl); (case' h2 => (intro hc; replace hc := of_decide_eq_false hc)); (case' h1 => (intro hc; replace hc := of_decide_eq_true hc)); all_goals try (exfalso; first | omega | exact hc rfl | exact hc trivial | exact Bool.noConfusion hc)) | ((with_reducible first | refine Ends.ret ?_ | refine Ends.normal ?_); simp only [aRes, show Tryz.f64.results.toList = [.tmp 2] from rfl, aRess, aResV, oneOf, List.getD_cons_zero, List.getD_cons_succ]) | (simp only [aop, Option.isSome_some, St.eval, List.getD_cons_zero, List.getD_cons_succ, aBin, binI, aLen, aBuiltin, List.map_cons, List.map_nil, true_and, se22]; (all_goals fail_if_success show False))
    all_goals exact Out.flat' rfl
  · rw [if_neg h0]
    refine Ok.walk Tryz.func64 rfl ?_; simp only [startSt, show Tryz.f64.ntmps = 9 from rfl, List.length_cons, List.length_nil, Nat.reduceAdd, Nat.reduceSub, List.replicate, List.cons_append, List.nil_append]
    repeat' first | (with_reducible first | refine W.seq ?_ | refine W.region ?_ | refine W_ret ?_ | refine W_skip ?_ | refine Seq.normal ?_ | refine aops_nil ?_) | ((with_reducible apply aops_callF); (case hg => exact rfl); (case ho => exact rfl); (case hc => exact rfl); (case hf => exact rfl); (case hok => first | exact hf); (case hcal => first | assumption | kernel_rfl); (case hcl => (with_reducible simp only [List.map_cons, List.map_nil, List.forall_mem_cons, St.eval, List.getD_cons_zero, List.getD_cons_succ]); (repeat' with_reducible first | exact Cln.b _ | exact cln_strs | exact cln_wts | exact cln_vI | exact cln_nil | refine And.intro ?_ ?_ | refine Cln.agg ?_ | rw [List.forall_mem_cons])); (case' h => dsimp only [put, List.set])) | ((with_reducible refine aops_run ?_ (fun K' hK' => ?_)); exact rfl) | ((with_reducible refine hK' _ _ ?_); clear hK'; dsimp only [put, List.set]) | ((with_reducible apply W_cond); (case hc => exact rfl); (case' h2 => (intro hc; replace hc := of_decide_eq_false hc)); (case' h1 => (intro hc; replace hc := of_decide_eq_true hc)); all_goals try (exfalso; first | omega | exact hc rfl | exact hc trivial | exact Bool.noConfusion hc)) | ((with_reducible first | refine Ends.ret ?_ | refine Ends.normal ?_); simp only [aRes, show Tryz.f64.results.toList = [.tmp 2] from rfl, aRess, aResV, oneOf, List.getD_cons_zero, List.getD_cons_succ]) | (simp only [aop, Option.isSome_some, St.eval, List.getD_cons_zero, List.getD_cons_succ, aBin, binI, aLen, aBuiltin, List.map_cons, List.map_nil, true_and, se22, us9]; (all_goals fail_if_success show False))
    all_goals exact Out.flat' rfl
end Go.Proofs.YtneapbfomhalpaaGreatDoor.T
