/- Walks of values, part 16: texts in quotes, of the reference. -/
import Derived.Test.YtneapbfomhalpaaGreatDoorQVO
set_option linter.unusedVariables false
set_option maxRecDepth 100000
set_option maxHeartbeats 4000000
set_option linter.unusedSimpArgs false
namespace Go.Pv
/-- A text's bytes up to a place, each quote twice, behind a quote. -/
def quoK (s : ByteArray) : Nat → ByteArray
  | 0 => ⟨#[39]⟩
  | k + 1 => (if ((s.data.toList.getD k 0).toNat : Int) = 39 then quoK s k ++ (⟨#[39]⟩ : ByteArray) else quoK s k) ++ s.extract k (k + 1)
def quoT (s : ByteArray) : ByteArray := quoK s s.size ++ (⟨#[39]⟩ : ByteArray)
theorem quoK_size (s : ByteArray) : ∀ k, (quoK s k).size ≤ 1 + 2 * k
  | 0 => Nat.le_refl _
  | k + 1 => by
    have := quoK_size s k
    have h1 : (⟨#[39]⟩ : ByteArray).size = 1 := rfl
    rw [quoK, ByteArray.size_append, ByteArray.size_extract]
    split
    · rw [ByteArray.size_append]; omega
    · omega
end Go.Pv
namespace Go.Proofs.YtneapbfomhalpaaGreatDoor.T
open Go Go.Pv Go.Proofs.YtneapbfomhalpaaGreatDoor.EF
theorem l4Quote_ok (s : ByteArray) (h : s.size ≤ 1000000) : Ok Tryz.prog 43 [vS s] (vS (quoT s)) [] := by
  unfold quoT
  refine Ok.walk Tryz.func43 rfl ?_; simp only [startSt, show Tryz.f43.ntmps = 26 from rfl, List.length_cons, List.length_nil, Nat.reduceAdd, Nat.reduceSub, List.replicate, List.cons_append, List.nil_append]
  repeat' first | (with_reducible first | refine W.seq ?_ | refine W.region ?_ | refine W.block ?_ | refine Seq.normal ?_ | refine aops_nil ?_) | ((with_reducible refine aops_run ?_ (fun K' hK' => ?_)); exact rfl) | ((with_reducible refine hK' _ _ ?_); clear hK'; dsimp only [put, List.set]) | (simp only [aop, St.eval]; (all_goals fail_if_success show False))
  refine W.loop (fun i : Nat => ⟨[vS s, .any, .any, vS (quoK s i), vI i, .any, .any, .any, .any, .any, .any, .any, .any, .any, .any, .any, .any, .any, .any, .any, .any, .any, .any, .any, .any, .any], noMem⟩) (fun i => i ≤ s.size) (fun i => s.size - i) 0 ?wk0 (Nat.zero_le _) (fun i hi => ?_)
  case wk0 => rw [show quoK s 0 = ⟨#[39]⟩ from rfl]; exact Weak.flat rfl (by simp [All2, vw, vwA, vwC, clean_b, vS])
  have hs := quoK_size s i
  have h1 : ∀ c : UInt8, (⟨#[c]⟩ : ByteArray).size = 1 := fun _ => rfl
  by_cases hil : i < s.size
  · have ek : quoK s (i + 1) = (if ((s.data.toList.getD i 0).toNat : Int) = 39 then quoK s i ++ (⟨#[39]⟩ : ByteArray) else quoK s i) ++ s.extract i (i + 1) := rfl
    have w1 : IntKind.i64.wrap ((i : Int) + 1) = ((i + 1 : Nat) : Int) := by rw [wrap_id (by omega) (by omega)]; omega
    generalize quoK s i = q at hs ek ⊢
    repeat' first | ((with_reducible show _ + _ ≤ 9223372036854775807); (simp only [ByteArray.size_append, ByteArray.size_extract, h1]; omega)) | (with_reducible first | refine W.seq ?_ | refine W.region ?_ | refine W_skip ?_ | refine W.block ?_ | refine Seq.normal ?_ | refine Blk.normal ?_ | refine aops_nil ?_) | ((with_reducible refine aops_run ?_ (fun K' hK' => ?_)); exact rfl) | ((with_reducible refine hK' _ _ ?_); clear hK'; dsimp only [put, List.set]) | ((with_reducible apply W_cond); (case hc => exact rfl); (case' h2 => (intro hc; replace hc := of_decide_eq_false hc)); (case' h1 => (intro hc; replace hc := of_decide_eq_true hc)); all_goals try (exfalso; first | omega | exact hc rfl | exact hc trivial | exact Bool.noConfusion hc)) | (with_reducible first | refine And.intro ?_ ?_) | ((with_reducible first | show (_ : Int) < _ | show (_ : Int) ≤ _ | show (_ : Int) ≠ _ | show (_ : Nat) < _ | show (_ : Nat) ≤ _ | show (_ : Nat) ≠ _); omega) | (simp only [aop, St.eval, List.getD_cons_zero, List.getD_cons_succ, aBin, binI, binS, aLen, aBuiltin, aIdxS, aSlice, getI, Int.toNat_natCast, List.map_cons, List.map_nil, Option.map_some, Option.map_none, Option.getD_some, true_and, w1, us9]; (all_goals fail_if_success show False))
    · refine Rnd.normal (i + 1) (by omega) (by omega) ?_
      rw [ek, if_pos hc]
      exact Weak.flat rfl (by simp [All2, vw, vwA, vwC, clean_b, vS])
    · refine Rnd.normal (i + 1) (by omega) (by omega) ?_
      rw [ek, if_neg hc]
      exact Weak.flat rfl (by simp [All2, vw, vwA, vwC, clean_b, vS])
  · obtain rfl : i = s.size := by omega
    repeat' first | ((with_reducible show _ + _ ≤ 9223372036854775807); (simp only [h1]; omega)) | (with_reducible first | refine W.seq ?_ | refine W.region ?_ | refine W_ret ?_ | refine W_exit ?_ | refine Seq.normal ?_ | refine Seq.exit ?_ | refine Blk.same ?_ | refine Rnd.exit ?_ | refine aops_nil ?_) | ((with_reducible refine aops_run ?_ (fun K' hK' => ?_)); exact rfl) | ((with_reducible refine hK' _ _ ?_); clear hK'; dsimp only [put, List.set]) | ((with_reducible apply W_cond); (case hc => exact rfl); (case' h2 => (intro hc; replace hc := of_decide_eq_false hc)); (case' h1 => (intro hc; replace hc := of_decide_eq_true hc)); all_goals try (exfalso; first | omega | exact hc rfl | exact hc trivial | exact Bool.noConfusion hc)) | (with_reducible first | refine And.intro ?_ ?_) | ((with_reducible first | refine Ends.ret ?_ | refine Ends.normal ?_); simp only [aRes, show Tryz.f43.results.toList = [.tmp 2] from rfl, aRess, aResV, oneOf, List.getD_cons_zero, List.getD_cons_succ]) | (simp only [aop, St.eval, List.getD_cons_zero, List.getD_cons_succ, aBin, binI, binS, aLen, aBuiltin, List.map_cons, List.map_nil, true_and, us9]; (all_goals fail_if_success show False))
    all_goals exact Out.flat' rfl
end Go.Proofs.YtneapbfomhalpaaGreatDoor.T
