/- The draws of the store, walked, part 17: the program's falls of disks. -/
import Derived.Test.YtknciobaifdafaaGreatDoorQEZ
import Derived.Test.YtknciobaifdafaaGreatDoorQG5
import Derived.Test.YtknciobaifdafaaGreatDoorQU
set_option linter.unusedVariables false
set_option maxRecDepth 100000
set_option maxHeartbeats 4000000
set_option linter.unusedSimpArgs false
namespace Go.Proofs.YtknciobaifdafaaGreatDoor.T
open Go Go.Pv Go.Proofs.YtknciobaifdafaaGreatDoor.EF
theorem shrW {o : Oper} {st : St} {xo yo : Operand} {t yt : TypeId} {K : PV → Mem → Prop} {a : Int} {k : Nat} (ho : o.op = .binOp .shr t xo yo yt) (hx : St.eval st xo = vI a) (hy : St.eval st yo = vI k) (hb : k ≤ 64) (hK : K (vI (a / 2 ^ k)) st.mem) : dX Tryz.prog o st K := by
  refine ⟨by rw [ho]; rfl, ?_, .int .i64 (a / 2 ^ k), fun w => ?_, hK⟩
  · rw [ho]
    simp [Op.operands, hx, hy, isB]
  · unfold execOp
    simp only [ho, hx, hy, unb]
    simp [eqGuard, binOp_shr]
theorem NW {a : Int} (h0 : 0 ≤ a) (h1 : a ≤ 9223372036854775807) : bits .and .i64 a 1 = a % 2 := by
  unfold bits
  have e : (BitVec.ofInt 64 a).toNat = a.toNat := by
    rw [BitVec.toNat_ofInt]
    have : a % ((2 ^ 64 : Nat) : Int) = a := Int.emod_eq_of_lt h0 (by omega)
    rw [this]
  have e2 : (BitVec.ofInt 64 a &&& BitVec.ofInt 64 1).toNat = a.toNat % 2 := by
    rw [BitVec.toNat_and, e, show (BitVec.ofInt 64 1).toNat = 1 by decide, Nat.and_one_is_mod]
  show IntKind.i64.wrap ((BitVec.ofInt 64 a &&& BitVec.ofInt 64 1).toNat : Int) = a % 2
  rw [e2, af (by omega) (by omega)]
  omega
theorem andW {o : Oper} {st : St} {xo yo : Operand} {t yt : TypeId} {K : PV → Mem → Prop} {a : Int} (ho : o.op = .binOp .and t xo yo yt) (hx : St.eval st xo = vI a) (hy : St.eval st yo = vI 1) (hb : 0 ≤ a ∧ a ≤ 9223372036854775807) (hK : K (vI (a % 2)) st.mem) : dX Tryz.prog o st K := by
  refine ⟨by rw [ho]; rfl, ?_, .int .i64 (a % 2), fun w => ?_, hK⟩
  · rw [ho]
    simp [Op.operands, hx, hy, isB]
  · unfold execOp
    simp only [ho, hx, hy, unb]
    simp [eqGuard, binOp_and, intBits_and, NW hb.1 hb.2]
theorem NY (text was : ByteArray) (bytes : Int) (h1 : text.size ≤ 1000000) (h2 : was.size ≤ 1000000) (hb : -1000000000 ≤ bytes ∧ bytes ≤ 1000000000) : Ok Tryz.prog 90 [vS was, vS text, vI bytes] (vS (fA text was (min (min bytes ((text.size : Int) - 1)).toNat text.size))) [] := by
  have w1 : IntKind.i64.wrap ((text.size : Int) - 1) = (text.size : Int) - 1 := af (by omega) (by omega)
  obtain ⟨k, hk⟩ : ∃ k, k = min (min bytes ((text.size : Int) - 1)).toNat text.size := ⟨_, rfl⟩
  have key1 : was.size ≤ k → fA text was k = text.extract 0 k := fun h => by
    refine BQ ?_
    rw [gW, vT]
    unfold tear
    rw [List.drop_eq_nil_of_le (by rw [mD]; exact h), List.append_nil, List.drop_zero]
  have key2 : fA text was k = text.extract 0 k ++ was.extract k was.size := by
    refine BQ ?_
    rw [gW, FH, vT, vT]
    unfold tear
    rw [List.drop_zero, show was.size = was.data.toList.length from rfl, List.take_length]
  rw [← hk]
  refine stO Tryz.func90 [.tmp 6] 28 rfl rfl rfl ?_
  repeat' first | refine sS ?_ | refine sO (fun K' hK' => ?_) | refine yA (fun K' hA' => ?_) | ((with_reducible show W _ _ (.region 3 _ _) _ _); refine sV 8 ?_) | (refine sE hK' ?_; clear hK') | (refine sE hA' ?_; clear hA') | (refine sD (fun hc => ?_) (fun hc => ?_) <;> try exact sZ hc) | refine sU ?_ ?_ | exact sX | ((with_reducible first | refine En.ret ?_ | refine En.normal ?_); simp only [go_sem]) | (simp only [go_sem, w1]; (all_goals fail_if_success show False)) | fail
  all_goals first
    | (simp only [ByteArray.size_extract]; omega)
    | exact Out.flat' (congrArg Value.string (by rw [key1 (by omega)]; congr 1; omega))
    | exact Out.flat' (congrArg Value.string (by rw [key2]; congr 1 <;> congr 1 <;> omega))
theorem Hf (d : Dk) (mask cut bytes : Int) (h1 : d.cells.length ≤ 2000000) (h2 : d.waits.length ≤ 2000000) (hm : -9223372036854775807 ≤ mask ∧ mask ≤ 9223372036854775807) (hb : -1000000000 ≤ bytes ∧ bytes ≤ 1000000000) : Ok Tryz.prog 42 [vDk d, vI mask, vI cut, vI bytes] (vDk (dH d mask cut bytes)) [] := by
  have hO := CJ d (by omega) (by omega)
  by_cases hok : dkOk d = true ∧ 0 ≤ mask
  · obtain ⟨f1, f2, f3, f4⟩ := Ap hok.1
    have hm0 := hok.2
    have hC := pF d.cells (by omega)
    rw [hok.1] at hO
    rw [iZ hok.1 hok.2]
    refine stO Tryz.func42 [.cell 8 33] 67 rfl rfl rfl ?_
    repeat' first | refine sS ?_ | ((with_reducible show aC ..); first | refine cF rfl rfl rfl rfl hO ?_ | refine cR rfl rfl rfl rfl hC ?_) | refine sO (fun K' hK' => ?_) | (refine sE hK' ?_; clear hK') | (refine sD (fun hc => ?_) (fun hc => ?_) <;> try exact sZ hc) | (simp only [go_sem, Nat.reduceAdd, Nat.reduceMul, Nat.reduceEqDiff, Nat.reduceLT, Nat.reduceLeDiff, Bool.not_true]; (all_goals fail_if_success show False)) | fail
    refine W.loop (fun x : Nat × List ByteArray => ⟨[.any, vI mask, vI cut, vI bytes, .any, .any, .any, .any, .ptr 0 0, .ptr 1 0, .any, .any, .any, .any, .any, .any, .any, .any, .any, .any, .any, .any, .any, .any, .any, .val d.waits.length (d.waits.flatMap cWt), vI d.waits.length, vI x.1, .any, .any, .any, .any, .any, .any, .any, .any, .any, .any, .any, .any, .any, .any, .any, .any, .any, .any, .any, .any, .any, .any, .any, .any, .any, .any, .any, .any, .any, .any, .any, .any, .any, .any, .any, .any, .any, .any, .any], aZ [(0, 33, [.b (.slice none 0 0), .b (.slice none 0 0), vI 0, vI 0]), (1, 33, [.ref 2 0 d.cells.length, .b (.slice none 0 0), vI (-1), vI (-1)]), (2, 9, x.2.map vS)]⟩)
      (fun x => x.1 ≤ d.waits.length ∧ x.2.length = 42 ∧ (∀ k, (cellAt x.2 k).size ≤ 1200) ∧ cu (dK mask) (gz cut bytes) d.waits 0 d.cells = cu (dK mask) (gz cut bytes) (d.waits.drop x.1) x.1 x.2) (fun x => d.waits.length - x.1) (0, d.cells) ?wk0 ⟨Nat.zero_le _, f1, f4, rfl⟩ (fun x hx => ?_)
    case wk0 => exact kp [⟨16400, 0, 33, [.b (.slice none 0 0), .b (.slice none 0 0), vI 0, vI 0]⟩, ⟨65600, 1, 33, [.ref 2 0 d.cells.length, .b (.slice none 0 0), vI (-1), vI (-1)]⟩, ⟨65568, 2, 9, (d.cells.map vS)⟩]
    obtain ⟨i, c⟩ := x
    dsimp only at hx ⊢
    obtain ⟨hi, hcl, hcs, hG⟩ := hx
    by_cases hil : i < d.waits.length
    · have hdr := dG hil
      have hat := f3 i hil
      have q0 : (i : Int).tmod 60 = ((i % 60 : Nat) : Int) := by rw [Int.tmod_eq_emod_of_nonneg (by omega)]; omega
      have hk60 : i % 60 < 60 := Nat.mod_lt _ (by decide)
      have e2 := IK hm0 (i % 60)
      have hst := Am (keep := dK mask) (cut := gz cut bytes) (c := c) hil
      have hlen1 := Ak (dK mask) (gz cut bytes) (d.waits.getD i wt0) i c
      have hsm1 := Nu (keep := dK mask) (cut := gz cut bytes) (i := i) hat.2.2 hcs
      have hcell : (d.waits.getD i wt0).cell.toNat < c.length := by omega
      have hwas := hcs (d.waits.getD i wt0).cell.toNat
      have htorn := NY (d.waits.getD i wt0).text (cellAt c (d.waits.getD i wt0).cell.toNat) bytes (by omega) (by omega) hb
      obtain ⟨X, hX⟩ : ∃ X, X = pV (dK mask) (gz cut bytes) (d.waits.getD i wt0) i c := ⟨_, rfl⟩
      have hXd := hX
      unfold pV at hXd
      rw [← hX] at hst hlen1 hsm1
      rw [hst] at hG
      cases hkp : dK mask i with
      | true =>
        rw [hkp] at hXd
        rw [if_pos rfl] at hXd
        unfold dK at hkp
        generalize hkk : i % 60 = k at q0 hk60 e2 hkp
        repeat' first | ((with_reducible apply andW); (case ho => exact rfl); (case hx => exact rfl); (case hy => exact rfl); (case hb => omega); (case' hK => skip)) | ((with_reducible apply shrW); (case ho => exact rfl); (case hx => exact rfl); (case hy => exact rfl); (case hb => omega); (case' hK => skip)) | refine sS ?_ | refine sO (fun K' hK' => ?_) | (refine sE hK' ?_; clear hK') | (refine sD (fun hc => ?_) (fun hc => ?_) <;> try exact sZ hc) | refine sU ?_ ?_ | exact sX | (simp only [go_sem, Nat.reduceAdd, Nat.reduceMul, Nat.reduceEqDiff, Nat.reduceLT, Nat.reduceLeDiff, hdr, List.take_succ_cons, List.take_zero, q0, hkp]; (all_goals fail_if_success show False)) | fail
        refine Rnd.normal (i + 1, X) ⟨by dsimp only; omega, by rw [hlen1]; exact hcl, hsm1, hG⟩ (by dsimp only; omega) ?_
        rw [af (x := (i : Int) + 1) (by omega) (by omega), show (c.map vS).set (d.waits.getD i wt0).cell.toNat (.b (.string ((d.waits.getD i wt0).text))) = (c.set (d.waits.getD i wt0).cell.toNat ((d.waits.getD i wt0).text)).map vS from dm, ← hXd]
        exact kp [⟨0, 0, 33, [.b (.slice none 0 0), .b (.slice none 0 0), vI 0, vI 0]⟩, ⟨1, 1, 33, [.ref 2 0 d.cells.length, .b (.slice none 0 0), vI (-1), vI (-1)]⟩, ⟨2, 2, 9, (X.map vS)⟩]
      | false =>
        rw [hkp] at hXd
        rw [if_neg (by simp)] at hXd
        unfold dK at hkp
        generalize hkk : i % 60 = k at q0 hk60 e2 hkp
        by_cases hcut : (i : Int) = cut
        · unfold gz at hXd
          rw [if_pos hcut] at hXd
          dsimp only at hXd
          repeat' first | ((with_reducible apply andW); (case ho => exact rfl); (case hx => exact rfl); (case hy => exact rfl); (case hb => omega); (case' hK => skip)) | ((with_reducible apply shrW); (case ho => exact rfl); (case hx => exact rfl); (case hy => exact rfl); (case hb => omega); (case' hK => skip)) | refine sS ?_ | refine sN ?_ ?_ | ((with_reducible show uC ..); refine uF rfl rfl rfl rfl htorn ?_) | refine sO (fun K' hK' => ?_) | refine yA (fun K' hA' => ?_) | ((with_reducible show W _ _ (.region 10 _ _) _ _); refine sV 15 ?_) | (refine sE hK' ?_; clear hK') | (refine sE hA' ?_; clear hA') | (refine sD (fun hc => ?_) (fun hc => ?_) <;> try exact sZ hc) | refine sU ?_ ?_ | exact sX | (simp only [go_sem, Nat.reduceAdd, Nat.reduceMul, Nat.reduceEqDiff, Nat.reduceLT, Nat.reduceLeDiff, hdr, List.take_succ_cons, List.take_zero, q0, hkp]; (all_goals fail_if_success show False)) | fail
          refine Rnd.normal (i + 1, X) ⟨by dsimp only; omega, by rw [hlen1]; exact hcl, hsm1, hG⟩ (by dsimp only; omega) ?_
          rw [af (x := (i : Int) + 1) (by omega) (by omega), show (c.map vS).set (d.waits.getD i wt0).cell.toNat (.b (.string (fA (d.waits.getD i wt0).text (cellAt c (d.waits.getD i wt0).cell.toNat) (min (min bytes (((d.waits.getD i wt0).text.size : Int) - 1)).toNat (d.waits.getD i wt0).text.size)))) = (c.set (d.waits.getD i wt0).cell.toNat (fA (d.waits.getD i wt0).text (cellAt c (d.waits.getD i wt0).cell.toNat) (min (min bytes (((d.waits.getD i wt0).text.size : Int) - 1)).toNat (d.waits.getD i wt0).text.size))).map vS from dm, ← hXd]
          exact kp [⟨0, 0, 33, [.b (.slice none 0 0), .b (.slice none 0 0), vI 0, vI 0]⟩, ⟨1, 1, 33, [.ref 2 0 d.cells.length, .b (.slice none 0 0), vI (-1), vI (-1)]⟩, ⟨2, 2, 9, (X.map vS)⟩]
        · unfold gz at hXd
          rw [if_neg hcut] at hXd
          dsimp only at hXd
          repeat' first | ((with_reducible apply andW); (case ho => exact rfl); (case hx => exact rfl); (case hy => exact rfl); (case hb => omega); (case' hK => skip)) | ((with_reducible apply shrW); (case ho => exact rfl); (case hx => exact rfl); (case hy => exact rfl); (case hb => omega); (case' hK => skip)) | refine sS ?_ | refine sO (fun K' hK' => ?_) | (refine sE hK' ?_; clear hK') | (refine sD (fun hc => ?_) (fun hc => ?_) <;> try exact sZ hc) | refine sU ?_ ?_ | exact sX | (simp only [go_sem, Nat.reduceAdd, Nat.reduceMul, Nat.reduceEqDiff, Nat.reduceLT, Nat.reduceLeDiff, hdr, List.take_succ_cons, List.take_zero, q0, hkp]; (all_goals fail_if_success show False)) | fail
          refine Rnd.normal (i + 1, X) ⟨by dsimp only; omega, by rw [hlen1]; exact hcl, hsm1, hG⟩ (by dsimp only; omega) ?_
          rw [af (x := (i : Int) + 1) (by omega) (by omega), ← hXd]
          exact kp [⟨0, 0, 33, [.b (.slice none 0 0), .b (.slice none 0 0), vI 0, vI 0]⟩, ⟨1, 1, 33, [.ref 2 0 d.cells.length, .b (.slice none 0 0), vI (-1), vI (-1)]⟩, ⟨2, 2, 9, (X.map vS)⟩]
    · obtain rfl : i = d.waits.length := by omega
      rw [hG, List.drop_length]
      repeat' first | refine sS ?_ | refine sO (fun K' hK' => ?_) | (refine sE hK' ?_; clear hK') | (refine sD (fun hc => ?_) (fun hc => ?_) <;> try exact sZ hc) | ((with_reducible first | refine En.ret ?_ | refine En.normal ?_); simp only [go_sem, Nat.reduceAdd, Nat.reduceEqDiff, Nat.reduceLT, Nat.reduceLeDiff]) | (simp only [go_sem, Nat.reduceAdd, Nat.reduceEqDiff, Nat.reduceLT, Nat.reduceLeDiff]; (all_goals fail_if_success show False)) | fail
      rw [show cu (dK mask) (gz cut bytes) [] d.waits.length c = c from rfl]
      have hce : d.cells.length = c.length := by omega
      exact Weak.intro [] (by simp) (by simp) (by simp) rfl (by simp [All2, vw, vwA, vwC, kap, upd, ax, vS, hce]) (fun _ h => h.elim)
  · have e : dH d mask cut bytes = dk0 := if_neg hok
    rw [e]
    generalize dkOk d = bo at hO hok
    cases bo with
    | false =>
      refine stO Tryz.func42 [.cell 8 33] 67 rfl rfl rfl ?_
      repeat' first | refine sS ?_ | ((with_reducible show aC ..); refine cF rfl rfl rfl rfl hO ?_) | refine sO (fun K' hK' => ?_) | refine sY ?_ | (refine sE hK' ?_; clear hK') | (refine sD (fun hc => ?_) (fun hc => ?_) <;> try exact sZ hc) | ((with_reducible first | refine En.ret ?_ | refine En.normal ?_); simp only [go_sem, Nat.reduceAdd, Nat.reduceEqDiff, Nat.reduceLT, Nat.reduceLeDiff]) | (simp only [go_sem, Nat.reduceAdd, Nat.reduceMul, Nat.reduceEqDiff, Nat.reduceLT, Nat.reduceLeDiff, Bool.not_false]; (all_goals fail_if_success show False)) | fail
      all_goals exact Weak.intro [] (by simp) (by simp) (by simp) rfl (by simp [All2, vw, vwA, vwC, ax, dk0]) (fun _ h => h.elim)
    | true =>
      have hm0 : mask < 0 := by simp at hok; omega
      refine stO Tryz.func42 [.cell 8 33] 67 rfl rfl rfl ?_
      repeat' first | refine sS ?_ | ((with_reducible show aC ..); refine cF rfl rfl rfl rfl hO ?_) | refine sO (fun K' hK' => ?_) | (refine sE hK' ?_; clear hK') | (refine sD (fun hc => ?_) (fun hc => ?_) <;> try exact sZ hc) | ((with_reducible first | refine En.ret ?_ | refine En.normal ?_); simp only [go_sem, Nat.reduceAdd, Nat.reduceEqDiff, Nat.reduceLT, Nat.reduceLeDiff]) | (simp only [go_sem, Nat.reduceAdd, Nat.reduceMul, Nat.reduceEqDiff, Nat.reduceLT, Nat.reduceLeDiff, Bool.not_true]; (all_goals fail_if_success show False)) | fail
      all_goals exact Weak.intro [] (by simp) (by simp) (by simp) rfl (by simp [All2, vw, vwA, vwC, ax, dk0]) (fun _ h => h.elim)
end Go.Proofs.YtknciobaifdafaaGreatDoor.T
