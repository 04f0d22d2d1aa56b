/- Walks of the laws' helpers, part 5: marks are written into own rows. -/
import Derived.Test.YtknciobaifdafaaGreatDoorQM1
import Derived.Test.YtknciobaifdafaaGreatDoorQM
import Derived.Test.YtknciobaifdafaaGreatDoorQC
set_option linter.unusedVariables false
set_option maxRecDepth 100000
set_option maxHeartbeats 4000000
set_option linter.unusedSimpArgs false
namespace Go.Pv
variable {P : Program} {R : Nat → Prop} {mem : Mem} {st : St} {o : Oper} {ops : Array Oper} {base i : Nat} {Q : St → Exit → Prop}
  {rest : List Oper} {K : St → Prop} {f : FuncId} {c : Call} {fo : Operand} {cargs : List PV} {r : PV} {rows : List (TypeId × List PV)}
/-- A region whose new rows get names from B on. -/
theorem W.regionB (B : Nat) {id : Nat} {l : List Oper} (h : aops P B l.toArray 0 l st fun s => Q s .normal) : W P R (.region id l.toArray false) st Q := W_region h
/-- Rows; the arguments may have own rows in them. -/
theorem aops_callW (hg : gd ops o st.tmps = some true) (ho : o.op = .call c) (hc : c.callee = .value fo) (hf : St.eval st fo = .b (.func (.func f) #[] #[])) (hcal : callable P f = true)
    (hok : Ok P f cargs r rows) (hcl : All2 (vw P (fun _ => none) st.mem) (c.args.toList.map st.eval) cargs) (how : ownV r = true ∧ (rows.all fun e => e.2.all ownC) = true) (hfree : ∀ q, q < rows.length → st.mem (base + 16 * i + q) = .free) (hgo : GOk P r) (hgr : ∀ e ∈ rows, ∀ z ∈ e.2, HOk P z)
    (h : aops P base ops (i + 1) rest (put st o.dst (sh (base + 16 * i) r) (rowsAt (base + 16 * i) (impRows (base + 16 * i) rows) st.mem)) K) : aops P base ops i (o :: rest) st K :=
  aops_call hg ho hc hf hcal hok hfree hgo hgr (.inr ⟨hcl, how⟩) h
theorem upd_self {m : Mem} {i : Nat} {s : Slot} (h : m i = s) : upd m i s = m := by
  funext j
  by_cases hj : j = i
  · subst hj; rw [upd_same, h]
  · rw [upd_ne _ _ hj]
theorem ne_of_slot {m : Mem} {i j : Nat} {t : TypeId} {xs : List PV} (h1 : m i = .row t xs) (h2 : m j = .free) : i ≠ j := fun e => by rw [e, h2] at h1; cases h1
end Go.Pv
namespace Go.Proofs.YtknciobaifdafaaGreatDoor.T
open Go Go.Pv Go.Proofs.YtknciobaifdafaaGreatDoor.EF
/-- The marks from k on, n of them. -/
def marksS (k : Int) (n : Nat) : List ByteArray := (List.range n).map fun i : Nat => markB (k + i)
def mixS (l : List ByteArray) (k : Int) (i : Nat) : List ByteArray := marksS k i ++ l.drop i
theorem marksS_length (k : Int) (n : Nat) : (marksS k n).length = n := by simp [marksS]
theorem mixS_zero (l : List ByteArray) (k : Int) : mixS l k 0 = l := by simp [mixS, marksS]
theorem mixS_all (l : List ByteArray) (k : Int) : mixS l k l.length = marksS k l.length := by simp [mixS]
theorem mixS_length (l : List ByteArray) (k : Int) {i : Nat} (h : i ≤ l.length) : (mixS l k i).length = l.length := by simp [mixS, marksS_length]; omega
theorem mixS_succ (l : List ByteArray) (k : Int) {i : Nat} (h : i < l.length) : (mixS l k i).set i (markB (k + i)) = mixS l k (i + 1) := by
  unfold mixS
  rw [List.set_append_right _ _ (by rw [marksS_length]; exact Nat.le_refl _), marksS_length, Nat.sub_self, List.drop_eq_getElem_cons h, List.set_cons_zero]
  simp [marksS, List.range_succ]
theorem markS_run {mem : Mem} {j : Nat} (l : List ByteArray) (k : Int) (hj : mem j = .row 9 (l.map vS)) (h0 : 0 ≤ k ∧ k ≤ 1000000000000) (hl : l.length ≤ 2000000) :
    CallM Tryz.prog 60 [.ref j 0 l.length, vI k] mem fun y m => y = vI (k + l.length) ∧ m = upd mem j (.row 9 ((marksS k l.length).map vS)) := by
  obtain ⟨M, hM⟩ : ∃ M : Int → ByteArray, M = markB := ⟨_, rfl⟩
  have hm : ∀ z : Int, z ≤ 9223372036854775807 → Ok Tryz.prog 61 [vI z] (vS (M z)) [] := fun z hz => hM ▸ markText_ok z hz
  refine CallM.run Tryz.func60 rfl ?_; simp only [startSt, show Tryz.f60.ntmps = 20 from rfl, List.length_cons, List.length_nil, Nat.reduceAdd, Nat.reduceSub, List.replicate, List.cons_append, List.nil_append]
  repeat' first | (with_reducible first | refine W.seq ?_ | refine W.region ?_ | refine W.block ?_ | refine Seq.normal ?_ | refine aops_nil ?_) | ((with_reducible refine aops_run ?_ (fun K' hK' => ?_)); exact rfl) | ((with_reducible refine hK' _ _ ?_); clear hK'; dsimp only [put, List.set]) | (simp only [aop, St.eval]; (all_goals fail_if_success show False))
  refine W.loop (fun i : Nat => ⟨[.ref j 0 l.length, vI (k + i), .any, .any, .any, vI i, .any, .any, .any, .any, .any, .any, .any, .any, .any, .any, .any, .any, .any, .any], upd mem j (.row 9 ((mixS l k i).map vS))⟩) (fun i => i ≤ l.length) (fun i => l.length - i) 0 ?wk0 (Nat.zero_le _) (fun i hi => ?_)
  case wk0 => exact Weak.keep (by rw [mixS_zero, upd_self hj]) (by simp [All2, vw, vwA, vwC, Cln.b])
  have hlen := mixS_length l k hi
  repeat' first | (with_reducible first | refine W.seq ?_ | refine W.region ?_ | refine W_ret ?_ | refine W_skip ?_ | refine W_exit ?_ | refine W.block ?_ | refine Seq.normal ?_ | refine Seq.exit ?_ | refine Blk.normal ?_ | refine Blk.same ?_ | refine Rnd.exit ?_ | refine aops_nil ?_) | ((with_reducible apply aops_callF); (case hg => exact rfl); (case ho => exact rfl); (case hc => exact rfl); (case hf => exact rfl); (case hok => first | exact hm _ (by omega)); (case hcal => first | assumption | kernel_rfl); (case hcl => (with_reducible simp only [List.map_cons, List.map_nil, List.forall_mem_cons, St.eval, List.getD_cons_zero, List.getD_cons_succ]); (repeat' with_reducible first | exact Cln.b _ | exact cln_strs | exact cln_wts | exact cln_nil | refine And.intro ?_ ?_ | refine Cln.agg ?_ | rw [List.forall_mem_cons])); (case' h => dsimp only [put, List.set])) | ((with_reducible refine aops_run ?_ (fun K' hK' => ?_)); exact rfl) | ((with_reducible refine hK' _ _ ?_); clear hK'; dsimp only [put, List.set]) | ((with_reducible apply W_cond); (case hc => exact rfl); (case' h2 => (intro hc; replace hc := of_decide_eq_false hc)); (case' h1 => (intro hc; replace hc := of_decide_eq_true hc)); all_goals try (exfalso; first | omega | exact hc rfl | exact hc trivial | exact Bool.noConfusion hc)) | (with_reducible first | refine And.intro ?_ ?_) | ((with_reducible first | show (_ : Int) < _ | show (_ : Int) ≤ _ | show (_ : Int) ≠ _ | show (_ : Nat) < _ | show (_ : Nat) ≤ _ | show (_ : Nat) ≠ _); omega) | ((with_reducible first | refine Ends.ret ?_ | refine Ends.normal ?_); simp only [aRes, show Tryz.f60.results.toList = [.tmp 4] from rfl, aRess, aResV, oneOf, List.getD_cons_zero, List.getD_cons_succ]) | (simp only [aop, Option.isSome_some, List.length_map, Bool.and_true, St.eval, List.getD_cons_zero, List.getD_cons_succ, aBin, binI, aStore, aIndex, aLen, aBuiltin, cellsOf, storable, storeL, upd, Int.toNat_natCast, Nat.mul_one, List.map_cons, List.map_nil, List.length_cons, List.length_nil, List.all_cons, List.all_nil, if_true, true_and, Value.cells, Value.oneCell', Nat.zero_add, se22, ti9]; (all_goals fail_if_success show False))
  · refine Rnd.normal (i + 1) (by omega) (by omega) ?_
    rw [upd_upd, show ∀ s, PV.b (Value.string s) = vS s from fun _ => rfl, set_strs, hM, mixS_succ l k (by omega), wrap_id (x := (i : Int) + 1) (by omega) (by omega), wrap_id (x := k + (i : Int) + 1) (by omega) (by omega), show k + (i : Int) + 1 = k + ((i + 1 : Nat) : Int) by omega]
    exact Weak.keep rfl (by simp [All2, vw, vwA, vwC, Cln.b])
  · obtain rfl : i = l.length := by omega
    rfl
  · obtain rfl : i = l.length := by omega
    rw [mixS_all]
/-- The same for what waits. -/
def marksW (k : Int) (n : Nat) : List Wt := (List.range n).map fun i : Nat => ⟨k + 2 * i, markB (k + 2 * i + 1)⟩
def mixW (l : List Wt) (k : Int) (i : Nat) : List Wt := marksW k i ++ l.drop i
theorem marksW_length (k : Int) (n : Nat) : (marksW k n).length = n := by simp [marksW]
theorem mixW_zero (l : List Wt) (k : Int) : mixW l k 0 = l := by simp [mixW, marksW]
theorem mixW_all (l : List Wt) (k : Int) : mixW l k l.length = marksW k l.length := by simp [mixW]
theorem mixW_length (l : List Wt) (k : Int) {i : Nat} (h : i ≤ l.length) : (mixW l k i).length = l.length := by simp [mixW, marksW_length]; omega
theorem mixW_succ (l : List Wt) (k : Int) {i : Nat} (h : i < l.length) : (mixW l k i).set i ⟨k + 2 * i, markB (k + 2 * i + 1)⟩ = mixW l k (i + 1) := by
  unfold mixW
  rw [List.set_append_right _ _ (by rw [marksW_length]; exact Nat.le_refl _), marksW_length, Nat.sub_self, List.drop_eq_getElem_cons h, List.set_cons_zero]
  simp [marksW, List.range_succ]
theorem markW_run {mem : Mem} {j : Nat} (l : List Wt) (k : Int) (hj : mem j = .row 110 (l.flatMap cWt)) (h0 : 0 ≤ k ∧ k ≤ 1000000000000) (hl : l.length ≤ 2000000) :
    CallM Tryz.prog 104 [.ref j 0 l.length, vI k] mem fun y m => y = vI (k + 2 * l.length) ∧ m = upd mem j (.row 110 ((marksW k l.length).flatMap cWt)) := by
  obtain ⟨M, hM⟩ : ∃ M : Int → ByteArray, M = markB := ⟨_, rfl⟩
  have hm : ∀ z : Int, z ≤ 9223372036854775807 → Ok Tryz.prog 61 [vI z] (vS (M z)) [] := fun z hz => hM ▸ markText_ok z hz
  refine CallM.run Tryz.func104 rfl ?_; simp only [startSt, show Tryz.f104.ntmps = 28 from rfl, List.length_cons, List.length_nil, Nat.reduceAdd, Nat.reduceSub, List.replicate, List.cons_append, List.nil_append]
  repeat' first | (with_reducible first | refine W.seq ?_ | refine W.region ?_ | refine W.block ?_ | refine Seq.normal ?_ | refine aops_nil ?_) | ((with_reducible refine aops_run ?_ (fun K' hK' => ?_)); exact rfl) | ((with_reducible refine hK' _ _ ?_); clear hK'; dsimp only [put, List.set]) | (simp only [aop, St.eval]; (all_goals fail_if_success show False))
  refine W.loop (fun i : Nat => ⟨[.ref j 0 l.length, vI (k + 2 * i), .any, .any, .any, vI i, .any, .any, .any, .any, .any, .any, .any, .any, .any, .any, .any, .any, .any, .any, .any, .any, .any, .any, .any, .any, .any, .any], upd mem j (.row 110 ((mixW l k i).flatMap cWt))⟩) (fun i => i ≤ l.length) (fun i => l.length - i) 0 ?wk0 (Nat.zero_le _) (fun i hi => ?_)
  case wk0 => exact Weak.keep (by rw [mixW_zero, upd_self hj]) (by simp [All2, vw, vwA, vwC, Cln.b])
  have hlen := mixW_length l k hi
  have hlw : ((mixW l k i).flatMap cWt).length = l.length * 2 := by rw [len_wts, hlen]
  repeat' first | (with_reducible first | refine W.seq ?_ | refine W.region ?_ | refine W_ret ?_ | refine W_skip ?_ | refine W_exit ?_ | refine W.block ?_ | refine Seq.normal ?_ | refine Seq.exit ?_ | refine Blk.normal ?_ | refine Blk.same ?_ | refine Rnd.exit ?_ | refine aops_nil ?_) | ((with_reducible apply aops_callF); (case hg => exact rfl); (case ho => exact rfl); (case hc => exact rfl); (case hf => exact rfl); (case hok => first | exact hm _ (by simp only [IntKind.wrap_i64]; omega)); (case hcal => first | assumption | kernel_rfl); (case hcl => (with_reducible simp only [List.map_cons, List.map_nil, List.forall_mem_cons, St.eval, List.getD_cons_zero, List.getD_cons_succ]); (repeat' with_reducible first | exact Cln.b _ | exact cln_strs | exact cln_wts | exact cln_nil | refine And.intro ?_ ?_ | refine Cln.agg ?_ | rw [List.forall_mem_cons])); (case' h => dsimp only [put, List.set])) | ((with_reducible refine aops_run ?_ (fun K' hK' => ?_)); exact rfl) | ((with_reducible refine hK' _ _ ?_); clear hK'; dsimp only [put, List.set]) | ((with_reducible apply W_cond); (case hc => exact rfl); (case' h2 => (intro hc; replace hc := of_decide_eq_false hc)); (case' h1 => (intro hc; replace hc := of_decide_eq_true hc)); all_goals try (exfalso; first | omega | exact hc rfl | exact hc trivial | exact Bool.noConfusion hc)) | (with_reducible first | refine And.intro ?_ ?_) | ((with_reducible first | show (_ : Int) < _ | show (_ : Int) ≤ _ | show (_ : Int) ≠ _ | show (_ : Nat) < _ | show (_ : Nat) ≤ _ | show (_ : Nat) ≠ _); omega) | ((with_reducible first | refine Ends.ret ?_ | refine Ends.normal ?_); simp only [aRes, show Tryz.f104.results.toList = [.tmp 4] from rfl, aRess, aResV, oneOf, List.getD_cons_zero, List.getD_cons_succ]) | (simp only [aop, Option.isSome_some, len_wts, Bool.and_true, St.eval, List.getD_cons_zero, List.getD_cons_succ, aBin, binI, aStore, aField, aIndex, aLen, aBuiltin, cellsOf, storable, storeL, upd, Int.toNat_natCast, List.map_cons, List.map_nil, List.length_cons, List.length_nil, List.all_cons, List.all_nil, if_true, true_and, Value.cells, Value.oneCell', Nat.zero_add, Nat.add_zero, fo110_0, fo110_1, se31, ti3, ti9]; (all_goals fail_if_success show False))
  · rw [List.length_set]; omega
  · rw [List.length_set]; omega
  · refine Rnd.normal (i + 1) (by omega) (by omega) ?_
    rw [wrap_id (x := k + 2 * (i : Int) + 1) (by omega) (by omega), upd_upd, upd_upd, show ∀ s, PV.b (Value.string s) = vS s from fun _ => rfl, show ∀ z, PV.b (Value.int .i64 z) = vI z from fun _ => rfl, hM, sets_wts (f := ⟨k + 2 * i, markB (k + 2 * i + 1)⟩) (by omega), mixW_succ l k (by omega), wrap_id (x := (i : Int) + 1) (by omega) (by omega), wrap_id (x := k + 2 * (i : Int) + 1 + 1) (by omega) (by omega), show k + 2 * (i : Int) + 1 + 1 = k + 2 * ((i + 1 : Nat) : Int) by omega]
    exact Weak.keep rfl (by simp [All2, vw, vwA, vwC, Cln.b])
  · obtain rfl : i = l.length := by omega
    rfl
  · obtain rfl : i = l.length := by omega
    rw [mixW_all]
def cDkR (j1 j2 : Nat) (d : Dk) : List PV := [.ref j1 0 d.cells.length, .ref j2 0 d.waits.length, vI d.room, vI d.left]
theorem markDisk_run {mem : Mem} {j1 j2 B : Nat} (d : Dk) (k : Int) (h1 : mem j1 = .row 9 (d.cells.map vS)) (h2 : mem j2 = .row 110 (d.waits.flatMap cWt)) (hB : mem B = .free) (h0 : 0 ≤ k ∧ k ≤ 1000000000) (hl1 : d.cells.length ≤ 2000000) (hl2 : d.waits.length ≤ 2000000) :
    CallM Tryz.prog 59 [.agg (cDkR j1 j2 d), vI k] mem fun y m => y = vI (k + d.cells.length + 2 * d.waits.length) ∧
      m = upd (upd (upd mem B (.row 33 (cDkR j1 j2 d))) j1 (.row 9 ((marksS k d.cells.length).map vS))) j2 (.row 110 ((marksW (k + d.cells.length) d.waits.length).flatMap cWt)) := by
  have n1 := ne_of_slot h1 hB
  have n2 := ne_of_slot h2 hB
  have n3 : j2 ≠ j1 := fun e => by rw [e, h1] at h2; cases h2
  have e1 : (B = j1) = False := eq_false (Ne.symm n1)
  have e2 : (B = j2) = False := eq_false (Ne.symm n2)
  refine CallM.run Tryz.func59 rfl ?_; simp only [startSt, show Tryz.f59.ntmps = 14 from rfl, List.length_cons, List.length_nil, Nat.reduceAdd, Nat.reduceSub, List.replicate, List.cons_append, List.nil_append]
  repeat' first | (with_reducible first | refine W.seq ?_) | (with_reducible refine W.regionB (B) ?_) | (with_reducible first | refine W_ret ?_ | refine Seq.normal ?_ | refine aops_nil ?_) | ((with_reducible apply aops_callM); (case hg => exact rfl); (case ho => exact rfl); (case hc => exact rfl); (case hf => exact rfl); (case hM => exact markS_run d.cells k ((upd_ne _ _ n1).trans h1) (by omega) hl1); (case hcal => first | assumption | kernel_rfl); (case' h => dsimp only [put, List.set])) | ((with_reducible apply aops_callM); (case hg => exact rfl); (case ho => exact rfl); (case hc => exact rfl); (case hf => exact rfl); (case hM => exact markW_run d.waits (k + d.cells.length) ((upd_ne _ _ n3).trans ((upd_ne _ _ n2).trans h2)) (by omega) hl2); (case hcal => first | assumption | kernel_rfl); (case' h => dsimp only [put, List.set])) | ((with_reducible refine aops_run ?_ (fun K' hK' => ?_)); exact rfl) | ((with_reducible refine hK' _ _ ?_); clear hK'; dsimp only [put, List.set]) | ((with_reducible first | refine Ends.ret ?_ | refine Ends.normal ?_); simp only [aRes, show Tryz.f59.results.toList = [.tmp 4] from rfl, aRess, aResV, oneOf, List.getD_cons_zero, List.getD_cons_succ, true_and]) | (simp only [aop, St.eval, List.getD_cons_zero, List.getD_cons_succ, aLoad, loadPV_one, aField, cellsOf, upd, List.length_cons, List.length_nil, List.drop_zero, List.drop_succ_cons, if_true, if_false, true_and, Nat.reduceAdd, Nat.reduceMul, Nat.reduceLT, Nat.zero_add, Nat.add_zero, cDkR, hB, e1, fo33_0, fo33_1, ti22, ti31]; (all_goals fail_if_success show False))
def cStR (j1 j2 j3 : Nat) (s : Stor) : List PV := [.ref j1 0 s.disk.cells.length, .ref j2 0 s.disk.waits.length, vI s.disk.room, vI s.disk.left, vI s.turn, vI s.tries, vI s.next, .ref j3 0 s.pages.length]
theorem markStore_run {mem : Mem} {j1 j2 j3 : Nat} (B B' : Nat) (s : Stor) (k : Int) (h1 : mem j1 = .row 9 (s.disk.cells.map vS)) (h2 : mem j2 = .row 110 (s.disk.waits.flatMap cWt)) (h3 : mem j3 = .row 9 (s.pages.map vS)) (h13 : j3 ≠ j1) (hB : mem B = .free) (hB' : mem B' = .free) (hBB : B ≠ B') (h0 : 0 ≤ k ∧ k ≤ 1000000000)
    (hl1 : s.disk.cells.length ≤ 2000000) (hl2 : s.disk.waits.length ≤ 2000000) (hl3 : s.pages.length ≤ 2000000) :
    CallM Tryz.prog 20 [.agg (cStR j1 j2 j3 s), vI k] mem fun y m => y = vI (k + s.disk.cells.length + 2 * s.disk.waits.length + s.pages.length) ∧
      m = upd (upd (upd (upd (upd mem B (.row 35 (cStR j1 j2 j3 s))) B' (.row 33 (cDkR j1 j2 s.disk))) j1 (.row 9 ((marksS k s.disk.cells.length).map vS))) j2 (.row 110 ((marksW (k + s.disk.cells.length) s.disk.waits.length).flatMap cWt)))
        j3 (.row 9 ((marksS (k + s.disk.cells.length + 2 * s.disk.waits.length) s.pages.length).map vS)) := by
  have n1 := ne_of_slot h1 hB
  have n2 := ne_of_slot h2 hB
  have n3 := ne_of_slot h3 hB
  have m1 := ne_of_slot h1 hB'
  have m2 := ne_of_slot h2 hB'
  have m3 := ne_of_slot h3 hB'
  have h23 : j3 ≠ j2 := fun e => by rw [e, h2] at h3; cases h3
  have e1 : (B = j1) = False := eq_false (Ne.symm n1)
  have e2 : (B = j2) = False := eq_false (Ne.symm n2)
  have e3 : (B = B') = False := eq_false hBB
  refine CallM.run Tryz.func20 rfl ?_; simp only [startSt, show Tryz.f20.ntmps = 14 from rfl, List.length_cons, List.length_nil, Nat.reduceAdd, Nat.reduceSub, List.replicate, List.cons_append, List.nil_append]
  repeat' first | (with_reducible first | refine W.seq ?_) | (with_reducible refine W.regionB (B) ?_) | (with_reducible first | refine W_ret ?_ | refine Seq.normal ?_ | refine aops_nil ?_) | ((with_reducible apply aops_callM); (case hg => exact rfl); (case ho => exact rfl); (case hc => exact rfl); (case hf => exact rfl); (case hM => exact markDisk_run (B := B') s.disk k ((upd_ne _ _ n1).trans h1) ((upd_ne _ _ n2).trans h2) ((upd_ne _ _ (Ne.symm hBB)).trans hB') h0 hl1 hl2); (case hcal => first | assumption | kernel_rfl); (case' h => dsimp only [put, List.set])) | ((with_reducible apply aops_callM); (case hg => exact rfl); (case ho => exact rfl); (case hc => exact rfl); (case hf => exact rfl); (case hM => exact markS_run s.pages (k + s.disk.cells.length + 2 * s.disk.waits.length) ((upd_ne _ _ h23).trans ((upd_ne _ _ h13).trans ((upd_ne _ _ m3).trans ((upd_ne _ _ n3).trans h3)))) (by omega) hl3); (case hcal => first | assumption | kernel_rfl); (case' h => dsimp only [put, List.set])) | ((with_reducible refine aops_run ?_ (fun K' hK' => ?_)); exact rfl) | ((with_reducible refine hK' _ _ ?_); clear hK'; dsimp only [put, List.set]) | ((with_reducible first | refine Ends.ret ?_ | refine Ends.normal ?_); simp only [aRes, show Tryz.f20.results.toList = [.tmp 4] from rfl, aRess, aResV, oneOf, List.getD_cons_zero, List.getD_cons_succ, true_and]) | (simp only [aop, St.eval, List.getD_cons_zero, List.getD_cons_succ, aLoad, loadPV_one, loadPV_agg, aField, cellsOf, upd, List.length_cons, List.length_nil, List.drop_zero, List.drop_succ_cons, List.take_succ_cons, List.take_zero, if_true, if_false, true_and, Nat.reduceAdd, Nat.reduceMul, Nat.reduceLT, Nat.reduceLeDiff, Nat.zero_add, Nat.add_zero, cStR, hB, e1, e2, e3, fo35_0, fo35_4, ti22, ti33]; (all_goals fail_if_success show False))
end Go.Proofs.YtknciobaifdafaaGreatDoor.T
