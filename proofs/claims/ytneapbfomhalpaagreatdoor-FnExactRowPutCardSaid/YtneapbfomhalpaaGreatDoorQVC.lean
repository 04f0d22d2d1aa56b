/- Walks of values, part 3: lists of numbers. -/
import Derived.Test.YtneapbfomhalpaaGreatDoorQVB
set_option linter.unusedVariables false
set_option maxRecDepth 100000
set_option maxHeartbeats 4000000
set_option linter.unusedSimpArgs false
namespace Go.Pv
variable {P : Program}
theorem clean_ints {n : Nat} {l : List Int} : Cln P (.val n (l.map vI)) = True := eq_true (Cln.val fun x hx => by
  obtain ⟨y, _, rfl⟩ := List.mem_map.1 hx
  exact Cln.b _)
theorem cln_vI {n : Nat} {l : List Int} : Cln P (.val n (l.map vI)) := Cln.val fun x hx => by
  obtain ⟨y, _, rfl⟩ := List.mem_map.1 hx
  exact Cln.b _
theorem hok_ints {n : Nat} {l : List Int} : HOk P (.val n (l.map vI)) := .inr (.inr cln_vI)
theorem flat_ints {l : List Int} : Flat P (l.map vI) := fun x hx => by
  obtain ⟨y, _, rfl⟩ := List.mem_map.1 hx
  exact flat_b
theorem load_ints {l : List Int} {k n : Nat} {z : Option (List Value)} {K : PV → Prop} (h : k < l.length) (hK : K (vI (l.getD k 0))) : loadPV ⟨false, 1, n, z⟩ ((l.map vI).drop k) K :=
  load_map h (by rw [show l[k] = l.getD k 0 by simp [h]]; exact hK)
theorem load_ints0 {l : List Int} {n : Nat} {z : Option (List Value)} {K : PV → Prop} (h : 0 < l.length) (hK : K (vI (l.getD 0 0))) : loadPV ⟨false, 1, n, z⟩ (l.map vI) K := load_ints (k := 0) h hK
def fiOf {α : Type} (p : α → Bool) (l : List α) : Int := if l.any p = true then (l.findIdx p : Int) else -1
theorem fiOf_hit {α : Type} {p : α → Bool} {l : List α} {d : α} {i : Nat} (hi : i < l.length) (h : p (l.getD i d) = true) (hb : ∀ k, k < i → p (l.getD k d) = false) : fiOf p l = i := by
  unfold fiOf
  rw [List.getD_eq_getElem?_getD, List.getElem?_eq_getElem hi] at h
  rw [if_pos (List.any_eq_true.2 ⟨_, List.getElem_mem hi, h⟩)]
  congr 1
  rw [List.findIdx_eq hi]
  refine ⟨h, fun j hj => ?_⟩
  have := hb j hj
  rwa [List.getD_eq_getElem?_getD, List.getElem?_eq_getElem (by omega)] at this
theorem fiOf_miss {α : Type} {p : α → Bool} {l : List α} {d : α} (hb : ∀ k, k < l.length → p (l.getD k d) = false) : fiOf p l = -1 := by
  unfold fiOf
  rw [if_neg]
  intro h
  obtain ⟨x, hx, h⟩ := List.any_eq_true.1 h
  obtain ⟨k, hk, rfl⟩ := List.getElem_of_mem hx
  have := hb k hk
  rw [List.getD_eq_getElem?_getD, List.getElem?_eq_getElem hk] at this
  rw [show (some l[k]).getD d = l[k] from rfl, h] at this
  cases this
theorem fiOf_any {α : Type} (p : α → Bool) (l : List α) : decide (0 ≤ fiOf p l) = l.any p := by
  unfold fiOf
  split
  · rename_i h; rw [h]; exact decide_eq_true (by omega)
  · rename_i h; rw [Bool.not_eq_true] at h; rw [h]; rfl
def badL (n : Int) : Bool := !decide (0 ≤ n ∧ n ≤ 9999)
/-- A number of limbs is ok. -/
def okB (d : Dc) : Bool := decide (d.limbs.length ≤ 16) && ((decide (d.limbs.length = 0) && !d.neg || decide (0 < d.limbs.length) && decide (d.limbs.getD (d.limbs.length - 1) 0 ≠ 0)) && !d.limbs.any badL)
theorem flat_vI {n : Nat} {l : List Int} : Cln P (.val n (l.map vI)) ∧ ((∃ v, PV.val n (l.map vI) = .b v) ∨ ∃ n' ys, PV.val n (l.map vI) = .val n' ys) := ⟨cln_vI, .inr ⟨_, _, rfl⟩⟩
end Go.Pv
namespace Go.Proofs.YtneapbfomhalpaaGreatDoor.T
open Go Go.Pv Go.Proofs.YtneapbfomhalpaaGreatDoor.EF
theorem indexI_ok {f : FuncId} (hcal : callable Tryz.prog f = true) (p : Int → Bool) (hp : ∀ s, Ok Tryz.prog f [vI s] (vB (p s)) []) (l : List Int) (hl : l.length ≤ 2000000) : Ok Tryz.prog 103 [.val l.length (l.map vI), .b (.func (.func f) #[] #[])] (vI (fiOf p l)) [] := by
  refine Ok.walk Tryz.func103 rfl ?_; simp only [startSt, show Tryz.f103.ntmps = 19 from rfl, List.length_cons, List.length_nil, Nat.reduceAdd, Nat.reduceSub, List.replicate, List.cons_append, List.nil_append]
  repeat' first | (with_reducible first | refine W.seq ?_ | refine W.region ?_ | refine W.block ?_ | refine Seq.normal ?_ | refine aops_nil ?_) | ((with_reducible refine aops_run ?_ (fun K' hK' => ?_)); exact rfl) | ((with_reducible refine hK' _ _ ?_); clear hK'; dsimp only [put, List.set]) | (simp only [aop, Option.isSome_some, St.eval, List.getD_cons_zero, List.getD_cons_succ, aLen, aBuiltin, List.map_cons, List.map_nil, true_and, se22]; (all_goals fail_if_success show False))
  refine W.loop (fun i : Nat => ⟨[.val l.length (l.map vI), .b (.func (.func f) #[] #[]), .any, .any, .any, .any, .any, vI l.length, vI i, .any, .any, .any, .any, .any, .any, .any, .any, .any, .any], noMem⟩) (fun i => i ≤ l.length ∧ ∀ k, k < i → p (l.getD k 0) = false) (fun i => l.length - i) 0 ?wk0 ⟨Nat.zero_le _, fun k hk => absurd hk (Nat.not_lt_zero _)⟩ (fun i hi => ?_)
  case wk0 => exact Weak.flat rfl (by simp [All2, vw, vwA, vwC, clean_b, clean_ints])
  obtain ⟨hi, hb⟩ := hi
  repeat' first | ((with_reducible refine load_ints ?_ ?_)) | (with_reducible first | refine W.seq ?_ | refine W.region ?_ | refine W_ret ?_ | refine W_skip ?_ | refine W_exit ?_ | refine W.block ?_ | refine Seq.normal ?_ | refine Seq.ret ?_ | refine Seq.exit ?_ | refine Blk.normal ?_ | refine Blk.same ?_ | refine Blk.ret ?_ | refine Rnd.exit ?_ | refine Rnd.ret ?_ | refine aops_nil ?_) | ((with_reducible apply aops_callF); (case hg => exact rfl); (case ho => exact rfl); (case hc => exact rfl); (case hf => exact rfl); (case hok => first | exact hp _); (case hcal => first | assumption | kernel_rfl); (case hcl => (with_reducible simp only [List.map_cons, List.map_nil, List.forall_mem_cons, St.eval, List.getD_cons_zero, List.getD_cons_succ]); (repeat' with_reducible first | exact Cln.b _ | exact cln_strs | exact cln_wts | exact cln_vI | exact cln_nil | refine And.intro ?_ ?_ | refine Cln.agg ?_ | rw [List.forall_mem_cons])); (case' h => dsimp only [put, List.set])) | ((with_reducible refine aops_run ?_ (fun K' hK' => ?_)); exact rfl) | ((with_reducible refine hK' _ _ ?_); clear hK'; dsimp only [put, List.set]) | ((with_reducible apply W_cond); (case hc => exact rfl); (case' h2 => (intro hc; replace hc := of_decide_eq_false hc)); (case' h1 => (intro hc; replace hc := of_decide_eq_true hc)); all_goals try (exfalso; first | omega | exact hc rfl | exact hc trivial | exact Bool.noConfusion hc)) | ((with_reducible apply W_cond); (case hc => exact rfl); all_goals intro hc; all_goals try (exfalso; first | omega | exact hc rfl | exact hc trivial | exact Bool.noConfusion hc)) | (with_reducible first | refine And.intro ?_ ?_) | ((with_reducible first | show (_ : Int) < _ | show (_ : Int) ≤ _ | show (_ : Int) ≠ _ | show (_ : Nat) < _ | show (_ : Nat) ≤ _ | show (_ : Nat) ≠ _); omega) | ((with_reducible first | refine Ends.ret ?_ | refine Ends.normal ?_); simp only [aRes, show Tryz.f103.results.toList = [.tmp 4] from rfl, aRess, aResV, oneOf, List.getD_cons_zero, List.getD_cons_succ]) | (simp only [aop, St.eval, List.getD_cons_zero, List.getD_cons_succ, aBin, binI, aLoad, aIndex, Int.toNat_natCast, Nat.mul_one, true_and, se22, ti3]; (all_goals fail_if_success show False))
  · exact Out.flat' (congrArg (Value.int .i64) (fiOf_hit (d := 0) (by omega) hc hb).symm)
  · refine Rnd.normal (i + 1) ⟨by omega, fun k hk => ?_⟩ (by omega) ?_
    · by_cases e : k = i
      · rw [e]; exact hc
      · exact hb k (by omega)
    · rw [wrap_id (x := (i : Int) + 1) (by omega) (by omega)]
      exact Weak.flat rfl (by simp [All2, vw, vwA, vwC, clean_b, clean_ints])
  · exact Out.flat' (congrArg (Value.int .i64) (fiOf_miss (d := 0) (fun k hk => hb k (by omega))).symm)
theorem containsI_ok {f : FuncId} (hcal : callable Tryz.prog f = true) (p : Int → Bool) (hp : ∀ s, Ok Tryz.prog f [vI s] (vB (p s)) []) (l : List Int) (hl : l.length ≤ 2000000) : Ok Tryz.prog 89 [.val l.length (l.map vI), .b (.func (.func f) #[] #[])] (vB (l.any p)) [] := by
  have hx := indexI_ok hcal p hp l hl
  refine Ok.walk Tryz.func89 rfl ?_; simp only [startSt, show Tryz.f89.ntmps = 9 from rfl, List.length_cons, List.length_nil, Nat.reduceAdd, Nat.reduceSub, List.replicate, List.cons_append, List.nil_append]
  repeat' first | (with_reducible first | refine W.seq ?_ | refine W.region ?_ | refine W_ret ?_ | refine Seq.normal ?_ | refine aops_nil ?_) | ((with_reducible apply aops_callF); (case hg => exact rfl); (case ho => exact rfl); (case hc => exact rfl); (case hf => exact rfl); (case hok => first | exact hx); (case hcal => first | assumption | kernel_rfl); (case hcl => (with_reducible simp only [List.map_cons, List.map_nil, List.forall_mem_cons, St.eval, List.getD_cons_zero, List.getD_cons_succ]); (repeat' with_reducible first | exact Cln.b _ | exact cln_strs | exact cln_wts | exact cln_vI | exact cln_nil | refine And.intro ?_ ?_ | refine Cln.agg ?_ | rw [List.forall_mem_cons])); (case' h => dsimp only [put, List.set])) | ((with_reducible refine aops_run ?_ (fun K' hK' => ?_)); exact rfl) | ((with_reducible refine hK' _ _ ?_); clear hK'; dsimp only [put, List.set]) | ((with_reducible first | refine Ends.ret ?_ | refine Ends.normal ?_); simp only [aRes, show Tryz.f89.results.toList = [.tmp 4] from rfl, aRess, aResV, oneOf, List.getD_cons_zero, List.getD_cons_succ]) | (simp only [aop, St.eval, List.getD_cons_zero, List.getD_cons_succ, aBin, binI, true_and]; (all_goals fail_if_success show False))
  exact Out.flat' (congrArg Value.bool (fiOf_any p l))
theorem badL_ok (n : Int) : Ok Tryz.prog 90 [vI n] (vB (badL n)) [] := by
  refine Ok.walk Tryz.func90 rfl ?_; simp only [startSt, show Tryz.f90.ntmps = 6 from rfl, List.length_cons, List.length_nil, Nat.reduceAdd, Nat.reduceSub, List.replicate, List.cons_append, List.nil_append]
  repeat' first | (with_reducible first | refine W.seq ?_ | refine W.region ?_ | refine W_ret ?_ | refine Seq.normal ?_ | refine aops_nil ?_) | ((with_reducible apply aops_callF); (case hg => exact rfl); (case ho => exact rfl); (case hc => exact rfl); (case hf => exact rfl); (case hok => first | exact in_ok _ _ _); (case hcal => first | assumption | kernel_rfl); (case hcl => (with_reducible simp only [List.map_cons, List.map_nil, List.forall_mem_cons, St.eval, List.getD_cons_zero, List.getD_cons_succ]); (repeat' with_reducible first | exact Cln.b _ | exact cln_strs | exact cln_wts | exact cln_vI | exact cln_nil | refine And.intro ?_ ?_ | refine Cln.agg ?_ | rw [List.forall_mem_cons])); (case' h => dsimp only [put, List.set])) | ((with_reducible refine aops_run ?_ (fun K' hK' => ?_)); exact rfl) | ((with_reducible refine hK' _ _ ?_); clear hK'; dsimp only [put, List.set]) | ((with_reducible first | refine Ends.ret ?_ | refine Ends.normal ?_); simp only [aRes, show Tryz.f90.results.toList = [.tmp 2] from rfl, aRess, aResV, oneOf, List.getD_cons_zero, List.getD_cons_succ]) | (simp only [aop, St.eval, List.getD_cons_zero, List.getD_cons_succ, aUn]; (all_goals fail_if_success show False))
  exact Out.flat' rfl
theorem BigOk_ok (d : Dc) (h : d.limbs.length ≤ 2000000) : Ok Tryz.prog 72 [vBg d] (vB (okB d)) [] := by
  have hc := containsI_ok (f := 90) (by kernel_rfl) badL badL_ok d.limbs h
  unfold okB
  obtain ⟨ng, l, sc⟩ := d
  dsimp only at h hc ⊢
  have w1 : 0 < l.length → IntKind.i64.wrap ((l.length : Int) - 1) = ((l.length - 1 : Nat) : Int) := fun h0 => by rw [wrap_id (by omega) (by omega)]; omega
  by_cases h0 : 0 < l.length
  · have w1 := w1 h0
    refine Ok.walk Tryz.func72 rfl ?_; simp only [startSt, show Tryz.f72.ntmps = 37 from rfl, List.length_cons, List.length_nil, Nat.reduceAdd, Nat.reduceSub, List.replicate, List.cons_append, List.nil_append]
    repeat' first | ((with_reducible refine load_ints ?_ ?_)) | (with_reducible first | refine W.seq ?_ | refine W.region ?_ | refine W_ret ?_ | refine Seq.normal ?_ | refine aops_nil ?_) | ((with_reducible apply aops_callF); (case hg => exact rfl); (case ho => exact rfl); (case hc => exact rfl); (case hf => exact rfl); (case hok => first | exact hc); (case hcal => first | assumption | kernel_rfl); (case hcl => (with_reducible simp only [List.map_cons, List.map_nil, List.forall_mem_cons, St.eval, List.getD_cons_zero, List.getD_cons_succ]); (repeat' with_reducible first | exact Cln.b _ | exact cln_strs | exact cln_wts | exact cln_vI | exact cln_nil | refine And.intro ?_ ?_ | refine Cln.agg ?_ | rw [List.forall_mem_cons])); (case' h => dsimp only [put, List.set])) | ((with_reducible refine aops_run ?_ (fun K' hK' => ?_)); exact rfl) | ((with_reducible refine aops_skip ?_ ?_); exact rfl; dsimp only [put, List.set]) | ((with_reducible apply aops_cons_if); (case hg => exact rfl); (case' h1 => (intro hg; (first | replace hg := beqT hg | replace hg := beqTf hg | replace hg := beqF hg | replace hg := beqFf hg); rw [hg]; (first | replace hg := of_decide_eq_true hg | replace hg := of_decide_eq_false hg | replace hg := ndT hg | replace hg := ndF hg | replace hg := nbT hg | replace hg := nbF hg | skip); (try (exfalso; omega)); all_goals (intro K' hK'))); (case' h2 => (intro hg; (first | replace hg := beqT hg | replace hg := beqTf hg | replace hg := beqF hg | replace hg := beqFf hg); rw [hg]; dsimp only [put, List.set]; (first | replace hg := of_decide_eq_true hg | replace hg := of_decide_eq_false hg | replace hg := ndT hg | replace hg := ndF hg | replace hg := nbT hg | replace hg := nbF hg | skip); (try (exfalso; omega))))) | ((with_reducible refine hK' _ _ ?_); clear hK'; dsimp only [put, List.set]) | (with_reducible first | refine And.intro ?_ ?_) | ((with_reducible first | show (_ : Int) < _ | show (_ : Int) ≤ _ | show (_ : Int) ≠ _ | show (_ : Nat) < _ | show (_ : Nat) ≤ _ | show (_ : Nat) ≠ _); omega) | ((with_reducible first | refine Ends.ret ?_ | refine Ends.normal ?_); simp only [aRes, show Tryz.f72.results.toList = [.tmp 2] from rfl, aRess, aResV, oneOf, List.getD_cons_zero, List.getD_cons_succ]) | (simp only [aop, Option.isSome_some, St.eval, List.getD_cons_zero, List.getD_cons_succ, aBin, binI, aUn, aLoad, loadPV_one, aField, aIndex, aLen, aBuiltin, cellsOf, upd, Int.toNat_natCast, Nat.mul_one, List.map_cons, List.map_nil, List.length_cons, List.length_nil, List.drop_zero, List.drop_succ_cons, if_true, if_false, Bool.false_eq_true, true_and, Nat.reduceAdd, Nat.reduceMul, Nat.reduceLT, Nat.zero_add, Nat.add_zero, w1, fo33_1, se22, ti22, ti3]; (all_goals fail_if_success show False))
    all_goals (refine Out.flat' (congrArg Value.bool ?_); generalize l.getD (l.length - 1) 0 = z at *; generalize l.any badL = q at *; generalize l.length = k at *; cases ng <;> cases q <;> by_cases hz : z = 0 <;> simp_all <;> omega)
  · refine Ok.walk Tryz.func72 rfl ?_; simp only [startSt, show Tryz.f72.ntmps = 37 from rfl, List.length_cons, List.length_nil, Nat.reduceAdd, Nat.reduceSub, List.replicate, List.cons_append, List.nil_append]
    repeat' first | (with_reducible first | refine W.seq ?_ | refine W.region ?_ | refine W_ret ?_ | refine Seq.normal ?_ | refine aops_nil ?_) | ((with_reducible apply aops_callF); (case hg => exact rfl); (case ho => exact rfl); (case hc => exact rfl); (case hf => exact rfl); (case hok => first | exact hc); (case hcal => first | assumption | kernel_rfl); (case hcl => (with_reducible simp only [List.map_cons, List.map_nil, List.forall_mem_cons, St.eval, List.getD_cons_zero, List.getD_cons_succ]); (repeat' with_reducible first | exact Cln.b _ | exact cln_strs | exact cln_wts | exact cln_vI | exact cln_nil | refine And.intro ?_ ?_ | refine Cln.agg ?_ | rw [List.forall_mem_cons])); (case' h => dsimp only [put, List.set])) | ((with_reducible refine aops_run ?_ (fun K' hK' => ?_)); exact rfl) | ((with_reducible refine aops_skip ?_ ?_); exact rfl; dsimp only [put, List.set]) | ((with_reducible apply aops_cons_if); (case hg => exact rfl); (case' h1 => (intro hg; (first | replace hg := beqT hg | replace hg := beqTf hg | replace hg := beqF hg | replace hg := beqFf hg); rw [hg]; (first | replace hg := of_decide_eq_true hg | replace hg := of_decide_eq_false hg | replace hg := ndT hg | replace hg := ndF hg | replace hg := nbT hg | replace hg := nbF hg | skip); (try (exfalso; omega)); all_goals (intro K' hK'))); (case' h2 => (intro hg; (first | replace hg := beqT hg | replace hg := beqTf hg | replace hg := beqF hg | replace hg := beqFf hg); rw [hg]; dsimp only [put, List.set]; (first | replace hg := of_decide_eq_true hg | replace hg := of_decide_eq_false hg | replace hg := ndT hg | replace hg := ndF hg | replace hg := nbT hg | replace hg := nbF hg | skip); (try (exfalso; omega))))) | ((with_reducible refine hK' _ _ ?_); clear hK'; dsimp only [put, List.set]) | ((with_reducible first | refine Ends.ret ?_ | refine Ends.normal ?_); simp only [aRes, show Tryz.f72.results.toList = [.tmp 2] from rfl, aRess, aResV, oneOf, List.getD_cons_zero, List.getD_cons_succ]) | (simp only [aop, Option.isSome_some, Bool.and_true, St.eval, List.getD_cons_zero, List.getD_cons_succ, aBin, binI, aUn, aLoad, loadPV_one, aField, aLen, aBuiltin, cellsOf, upd, Nat.mul_one, List.map_cons, List.map_nil, List.length_cons, List.length_nil, List.drop_zero, List.drop_succ_cons, if_true, if_false, Bool.false_eq_true, true_and, Nat.reduceAdd, Nat.reduceMul, Nat.reduceLT, Nat.zero_add, Nat.add_zero, fo33_0, fo33_1, se22, ti22, ti4]; (all_goals fail_if_success show False))
    all_goals (refine Out.flat' (congrArg Value.bool ?_); generalize l.getD (l.length - 1) 0 = z at *; generalize l.any badL = q at *; generalize l.length = k at *; cases ng <;> cases q <;> by_cases hz : z = 0 <;> simp_all <;> omega)
end Go.Proofs.YtneapbfomhalpaaGreatDoor.T
