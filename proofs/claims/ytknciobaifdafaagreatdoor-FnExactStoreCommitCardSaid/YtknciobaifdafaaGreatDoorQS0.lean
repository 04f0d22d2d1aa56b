/- Walks of the store's functions, part 3: numbers read. -/
import Derived.Test.YtknciobaifdafaaGreatDoorQD
import Derived.Test.YtknciobaifdafaaGreatDoorQK
set_option linter.unusedVariables false
set_option maxRecDepth 100000
set_option linter.unusedSimpArgs false
namespace Go.Proofs.YtknciobaifdafaaGreatDoor.T
open Go Go.Pv Go.Proofs.YtknciobaifdafaaGreatDoor.EF
theorem numL_good {s : ByteArray} {i : Nat} (hi : i = s.size) (h9 : i ≤ 9) (hd : (s.data.toList.take i).all digitB = true) (h0 : s.size ≠ 0) (h : 1 < s.size → s.data.toList.getD 0 0 ≠ 48) : numL s.data.toList = valL (s.data.toList.take i) := by
  have hz : s.data.toList.length = s.size := rfl
  have e : s.data.toList.take i = s.data.toList := List.take_of_length_le (by omega)
  rw [e] at hd ⊢
  unfold numL
  rw [if_pos ⟨hd, by omega, by intro e; rw [e] at hz; exact h0 hz.symm, by rw [hz]; exact h⟩]
theorem l1Num_ok (s : ByteArray) (hs : s.size ≤ 9223372036854775807) : Ok Tryz.prog 158 [vS s] (vI (numL s.data.toList)) [] := by
  have hz : s.data.toList.length = s.size := rfl
  refine Ok.walk Tryz.func158 rfl ?_; simp only [startSt, show Tryz.f158.ntmps = 47 from rfl, List.length_cons, List.length_nil, Nat.reduceAdd, Nat.reduceSub, List.replicate, List.cons_append, List.nil_append]
  repeat' first | (with_reducible first | refine W.seq ?_ | refine W.region ?_ | refine W.block ?_ | refine Seq.normal ?_ | refine aops_nil ?_) | ((with_reducible refine aops_run ?_ (fun K' hK' => ?_)); exact rfl) | ((with_reducible refine hK' _ _ ?_); clear hK'; dsimp only [put, List.set]) | (simp only [aop, St.eval]; (all_goals fail_if_success show False))
  refine W.loop (fun i : Nat => ⟨[vS s, .any, .any, vI (valL (s.data.toList.take i)), vI i, .any, .any, .any, .any, .any, .any, .any, .any, .any, .any, .any, .any, .any, .any, .any, .any, .any, .any, .any, .any, .any, .any, .any, .any, .any, .any, .any, .any, .any, .any, .any, .any, .any, .any, .any, .any, .any, .any, .any, .any, .any, .any], noMem⟩) (fun i => i ≤ s.size ∧ i ≤ 9 ∧ (s.data.toList.take i).all digitB = true) (fun i => s.size - i) 0 ?wk0 ⟨Nat.zero_le _, by omega, by simp⟩ (fun i hi => ?_)
  case wk0 => exact Weak.flat rfl (by simp [All2, vw, vwA, vwC, clean_b, vS, valL])
  obtain ⟨hi, h9, hd⟩ := hi
  have hv := valL_lt _ hd
  have h10 : 10 ^ (s.data.toList.take i).length ≤ 10 ^ 9 := Nat.pow_le_pow_right (by omega) (by simp; omega)
  repeat' first | (with_reducible first | refine W.seq ?_ | refine W.region ?_ | refine W_ret ?_ | refine W_skip ?_ | refine W_exit ?_ | refine W.block ?_ | refine Seq.normal ?_ | refine Seq.ret ?_ | refine Seq.exit ?_ | refine Blk.normal ?_ | refine Blk.same ?_ | refine Blk.ret ?_ | refine Rnd.exit ?_ | refine Rnd.ret ?_ | refine aops_nil ?_) | ((with_reducible refine aops_run ?_ (fun K' hK' => ?_)); exact rfl) | ((with_reducible refine aops_skip ?_ ?_); exact rfl; dsimp only [put, List.set]) | ((with_reducible apply aops_cons_if); (case hg => exact rfl); (case' h1 => (intro hg; (first | replace hg := beqT hg | replace hg := beqTf hg | replace hg := beqF hg | replace hg := beqFf hg); rw [hg]; (first | replace hg := of_decide_eq_true hg | replace hg := of_decide_eq_false hg | replace hg := ndT hg | replace hg := ndF hg | replace hg := nbT hg | replace hg := nbF hg | skip); (try (exfalso; omega)); all_goals (intro K' hK'))); (case' h2 => (intro hg; (first | replace hg := beqT hg | replace hg := beqTf hg | replace hg := beqF hg | replace hg := beqFf hg); rw [hg]; dsimp only [put, List.set]; (first | replace hg := of_decide_eq_true hg | replace hg := of_decide_eq_false hg | replace hg := ndT hg | replace hg := ndF hg | replace hg := nbT hg | replace hg := nbF hg | skip); (try (exfalso; omega))))) | ((with_reducible refine hK' _ _ ?_); clear hK'; dsimp only [put, List.set]) | ((with_reducible apply W_cond); (case hc => exact rfl); (case' h2 => (intro hc; replace hc := of_decide_eq_false hc)); (case' h1 => (intro hc; replace hc := of_decide_eq_true hc)); all_goals try (exfalso; first | omega | exact hc rfl | exact hc trivial | exact Bool.noConfusion hc)) | ((with_reducible apply W_cond); (case hc => exact rfl); all_goals intro hc; all_goals try (exfalso; first | omega | exact hc rfl | exact hc trivial | exact Bool.noConfusion hc)) | (with_reducible first | refine And.intro ?_ ?_) | ((with_reducible first | show (_ : Int) < _ | show (_ : Int) ≤ _ | show (_ : Int) ≠ _ | show (_ : Nat) < _ | show (_ : Nat) ≤ _ | show (_ : Nat) ≠ _); omega) | ((with_reducible first | refine Ends.ret ?_ | refine Ends.normal ?_); simp only [aRes, show Tryz.f158.results.toList = [.tmp 2] from rfl, aRess, aResV, oneOf, List.getD_cons_zero, List.getD_cons_succ]) | (simp only [aop, St.eval, List.getD_cons_zero, List.getD_cons_succ, aBin, binI, aLen, aBuiltin, aIdxS, aConv, Int.toNat_natCast, List.map_cons, List.map_nil, if_true, if_false, Bool.false_eq_true, true_and, Int.toNat_zero, ui3, ui5, us9]; (all_goals fail_if_success show False))
  · exact Out.flat' (by rw [numL_bad (i := i) (by omega) (by unfold digitB; rw [decide_eq_false_iff_not]; omega)])
  · exact Out.flat' (by rw [numL_bad (i := i) (by omega) (by unfold digitB; rw [decide_eq_false_iff_not]; omega)])
  · exact Out.flat' (by rw [numL_long (by omega)])
  · have hdi : digitB (s.data.toList.getD i 0) = true := by unfold digitB; simp only [decide_eq_true_eq]; omega
    obtain ⟨h1, h2⟩ := take_succ_all (by omega) hd hdi
    refine Rnd.normal (i + 1) ⟨by omega, by omega, h1⟩ (by omega) ?_
    have e1 : (((s.data.toList.getD i 0).toNat : Int) - 48) = (((s.data.toList.getD i 0).toNat - 48 : Nat) : Int) := by omega
    rw [wrap_id (x := (i : Int) + 1) (by omega) (by omega), e1, u8wrap (by omega), wrap_id (x := (valL _ : Int) * 10) (by omega) (by omega), wrap_id (x := (((s.data.toList.getD i 0).toNat - 48 : Nat) : Int)) (by omega) (by omega), wrap_id (by omega) (by omega),
      show (valL (s.data.toList.take i) : Int) * 10 + (((s.data.toList.getD i 0).toNat - 48 : Nat) : Int) = (valL (s.data.toList.take (i + 1)) : Int) by rw [h2]; omega]
    exact Weak.flat rfl (by simp [All2, vw, vwA, vwC, clean_b, vS])
  · exact Out.flat' (by unfold numL; rw [if_neg]; rintro ⟨-, -, h, -⟩; exact h (List.eq_nil_of_length_eq_zero (by omega)))
  · exact Out.flat' (by rw [numL_good (by omega) h9 hd (by omega) (by omega)])
  · refine Out.flat' ?_
    unfold numL
    rw [if_neg]
    rintro ⟨-, -, -, h⟩
    refine h (by omega) (UInt8.toNat_inj.1 ?_)
    show _ = 48
    omega
  · exact Out.flat' (by rw [numL_good (by omega) h9 hd (by omega) (fun _ e => by rw [e] at hc; exact hc rfl)])
end Go.Proofs.YtknciobaifdafaaGreatDoor.T

/- Walks of the store's functions, part 4: a text cut. -/
set_option linter.unusedVariables false
set_option maxRecDepth 100000
set_option linter.unusedSimpArgs false
namespace Go.Proofs.YtknciobaifdafaaGreatDoor.T
open Go Go.Pv Go.Proofs.YtknciobaifdafaaGreatDoor.EF
structure CutS where
  out : List ByteArray
  from_ : Nat
  i : Nat
def cutI (s : ByteArray) (b : UInt8) (most : Nat) (x : CutS) : Prop :=
  x.from_ ≤ x.i ∧ x.i ≤ s.size ∧ x.out.length ≤ most ∧ x.out.length ≤ x.i ∧
  x.out ++ (cutGo b (most - x.out.length) ((s.data.toList.drop x.from_).take (x.i - x.from_)) (s.data.toList.drop x.i)).map ofL = cutL s b most
theorem ofL_part {s : ByteArray} {a b : Nat} (h : a ≤ b) (hb : b ≤ s.size) : ofL ((s.data.toList.drop a).take (b - a)) = s.extract a b := by
  apply ByteArray.ext
  rw [ByteArray.data_extract]
  apply Array.ext'
  rw [Array.toList_extract]
  simp [ofL, List.extract_eq_take_drop]
theorem ofL_rest {s : ByteArray} {a : Nat} (h : a ≤ s.size) : ofL (s.data.toList.drop a) = s.extract a s.size := by
  rw [← ofL_part h (Nat.le_refl _), List.take_of_length_le]
  have hz : s.data.toList.length = s.size := rfl
  simp
theorem cutGo_end {b : UInt8} {k : Nat} {cur l : List UInt8} (h : k = 0 ∨ l = []) : cutGo b k cur l = [cur ++ l] := by
  cases l with
  | nil => simp [cutGo]
  | cons c l =>
    rcases h with rfl | h
    · rfl
    · cases h
theorem cutI_end {s : ByteArray} {b : UInt8} {most : Nat} {x : CutS} (h : cutI s b most x) (he : s.size ≤ x.i ∨ most ≤ x.out.length) : x.out ++ [s.extract x.from_ s.size] = cutL s b most ∧ True := by
  obtain ⟨hf, hi, ho, ho2, hq⟩ := h
  have hz : s.data.toList.length = s.size := rfl
  rw [cutGo_end] at hq
  · rw [← hq, ← ofL_rest (by omega)]
    refine ⟨?_, trivial⟩
    simp only [List.map_cons, List.map_nil]
    congr 3
    conv => lhs; rw [← List.take_append_drop (x.i - x.from_) (s.data.toList.drop x.from_), List.drop_drop]
    rw [show x.from_ + (x.i - x.from_) = x.i by omega]
  · rcases he with h | h
    · exact .inr (List.drop_eq_nil_of_le (by omega))
    · exact .inl (by omega)
theorem drop_getD {l : List UInt8} {i : Nat} (h : i < l.length) : l.drop i = l.getD i 0 :: l.drop (i + 1) := by
  rw [List.drop_eq_getElem_cons h, List.getD_eq_getElem?_getD, List.getElem?_eq_getElem h]
  rfl
theorem cutI_hit {s : ByteArray} {b : UInt8} {most : Nat} {x : CutS} (h : cutI s b most x) (hi : x.i < s.size) (ho : x.out.length < most) (hc : s.data.toList.getD x.i 0 = b) : cutI s b most ⟨x.out ++ [s.extract x.from_ x.i], x.i + 1, x.i + 1⟩ ∧ True := by
  obtain ⟨hf, hi', ho', ho2, hq⟩ := h
  have hz : s.data.toList.length = s.size := rfl
  refine ⟨⟨Nat.le_refl _, hi, by simp; omega, by simp; omega, ?_⟩, trivial⟩
  rw [← hq, drop_getD (l := s.data.toList) (i := x.i) (by omega), hc]
  obtain ⟨k, hk⟩ : ∃ k, most - x.out.length = k + 1 := ⟨most - x.out.length - 1, by omega⟩
  rw [hk]
  simp only [cutGo, if_true, List.map_cons, List.length_append, List.length_cons, List.length_nil, Nat.sub_self, List.take_zero]
  rw [ofL_part hf hi', show most - (x.out.length + (0 + 1)) = k by omega, List.append_assoc]
  rfl
theorem cutI_miss {s : ByteArray} {b : UInt8} {most : Nat} {x : CutS} (h : cutI s b most x) (hi : x.i < s.size) (ho : x.out.length < most) (hc : s.data.toList.getD x.i 0 ≠ b) : cutI s b most ⟨x.out, x.from_, x.i + 1⟩ := by
  obtain ⟨hf, hi', ho', ho2, hq⟩ := h
  have hz : s.data.toList.length = s.size := rfl
  refine ⟨by simp; omega, hi, ho', by simp; omega, ?_⟩
  rw [← hq, drop_getD (l := s.data.toList) (i := x.i) (by omega)]
  obtain ⟨k, hk⟩ : ∃ k, most - x.out.length = k + 1 := ⟨most - x.out.length - 1, by omega⟩
  rw [hk]
  simp only [cutGo, if_neg hc]
  have e : (s.data.toList.drop x.from_).take (x.i + 1 - x.from_) = (s.data.toList.drop x.from_).take (x.i - x.from_) ++ [s.data.toList.getD x.i 0] := by
    rw [show x.i + 1 - x.from_ = (x.i - x.from_) + 1 by omega, List.take_add_one, List.getElem?_drop, show x.from_ + (x.i - x.from_) = x.i by omega, List.getElem?_eq_getElem (by omega), List.getD_eq_getElem?_getD, List.getElem?_eq_getElem (by omega)]
    rfl
  rw [e]
theorem l1Cut_ok (s : ByteArray) (b : UInt8) (most : Nat) (hs : s.size ≤ 1000000) (hm : most ≤ 1000) : Ok Tryz.prog 159 [vS s, .b (.int .u8 b.toNat), vI most] (.val (cutL s b most).length ((cutL s b most).map vS)) [] := by
  have hz : s.data.toList.length = s.size := rfl
  refine Ok.walk Tryz.func159 rfl ?_; simp only [startSt, show Tryz.f159.ntmps = 43 from rfl, List.length_cons, List.length_nil, Nat.reduceAdd, Nat.reduceSub, List.replicate, List.cons_append, List.nil_append]
  repeat' first | (with_reducible first | refine W.seq ?_ | refine W.region ?_ | refine W.block ?_ | refine Seq.normal ?_ | refine aops_nil ?_) | ((with_reducible refine aops_run ?_ (fun K' hK' => ?_)); exact rfl) | ((with_reducible refine hK' _ _ ?_); clear hK'; dsimp only [put, List.set]) | (with_reducible first | refine And.intro ?_ ?_) | ((with_reducible first | show (_ : Int) < _ | show (_ : Int) ≤ _ | show (_ : Int) ≠ _ | show (_ : Nat) < _ | show (_ : Nat) ≤ _ | show (_ : Nat) ≠ _); omega) | (simp only [aop, St.eval, List.getD_cons_zero, List.getD_cons_succ, aBuildSlice, fillPV, zrep, Nat.mul_one, List.map_nil, List.length_cons, List.length_nil, true_and, Nat.reduceAdd, Nat.reduceMul, Nat.reduceLeDiff, Nat.zero_add, Nat.add_zero, se22]; (all_goals fail_if_success show False))
  refine W.loop (fun x : CutS => ⟨[vS s, .b (.int .u8 b.toNat), vI most, .any, .any, .any, .any, .ref 0 0 x.out.length, vI x.from_, vI x.i, .any, .any, .any, .any, .any, .any, .any, .any, .any, .any, .any, .any, .any, .any, .any, .any, .any, .any, .any, .any, .any, .any, .any, .any, .any, .any, .any, .any, .any, .any, .any, .any, .any], memOf [(0, 9, x.out.map vS)]⟩) (cutI s b most) (fun x => s.size - x.i) ⟨[], 0, 0⟩ ?wk0 ⟨by simp, by simp, by simp, by simp, by simp [cutL]⟩ (fun x hx => ?_)
  case wk0 => exact Weak.rows [⟨32768, 0, 9, []⟩] (by simp) (by simp) (by intro e he; simp only [List.mem_cons, List.not_mem_nil, or_false] at he; rcases he with rfl <;> exact ⟨by simp [upd], by first | exact flat_strs | exact flat_wts | exact flat_nil | (repeat' with_reducible first | exact flat_nil | exact flat_b | exact flat_vstrs | exact flat_vwts | refine Flat.cons ?_ ?_)⟩) rfl (by simp [All2, vw, vwA, vwC, kap, clean_b, vS]) (fun _ h => h.elim)
  obtain ⟨hf, hi, ho, ho2, hq⟩ := hx
  repeat' first | (with_reducible first | refine W.seq ?_ | refine W.region ?_ | refine W_ret ?_ | refine W_skip ?_ | refine W_exit ?_ | refine W.block ?_ | refine Seq.normal ?_ | refine Seq.exit ?_ | refine Blk.normal ?_ | refine Blk.same ?_ | refine Rnd.exit ?_ | refine aops_nil ?_) | ((with_reducible refine aops_run ?_ (fun K' hK' => ?_)); exact rfl) | ((with_reducible refine aops_skip ?_ ?_); exact rfl; dsimp only [put, List.set]) | ((with_reducible apply aops_cons_if); (case hg => exact rfl); (case' h1 => (intro hg; (first | replace hg := beqT hg | replace hg := beqTf hg | replace hg := beqF hg | replace hg := beqFf hg); rw [hg]; (first | replace hg := of_decide_eq_true hg | replace hg := of_decide_eq_false hg | replace hg := ndT hg | replace hg := ndF hg | replace hg := nbT hg | replace hg := nbF hg | skip); (try (exfalso; omega)); all_goals (intro K' hK'))); (case' h2 => (intro hg; (first | replace hg := beqT hg | replace hg := beqTf hg | replace hg := beqF hg | replace hg := beqFf hg); rw [hg]; dsimp only [put, List.set]; (first | replace hg := of_decide_eq_true hg | replace hg := of_decide_eq_false hg | replace hg := ndT hg | replace hg := ndF hg | replace hg := nbT hg | replace hg := nbF hg | skip); (try (exfalso; omega))))) | ((with_reducible refine hK' _ _ ?_); clear hK'; dsimp only [put, List.set]) | ((with_reducible apply W_cond); (case hc => exact rfl); (case' h2 => (intro hc; replace hc := of_decide_eq_false hc)); (case' h1 => (intro hc; replace hc := of_decide_eq_true hc)); all_goals try (exfalso; first | omega | exact hc rfl | exact hc trivial | exact Bool.noConfusion hc)) | ((with_reducible apply W_cond); (case hc => exact rfl); all_goals intro hc; all_goals try (exfalso; first | omega | exact hc rfl | exact hc trivial | exact Bool.noConfusion hc)) | (with_reducible first | refine And.intro ?_ ?_) | ((with_reducible first | show (_ : Int) < _ | show (_ : Int) ≤ _ | show (_ : Int) ≠ _ | show (_ : Nat) < _ | show (_ : Nat) ≤ _ | show (_ : Nat) ≠ _); omega) | ((with_reducible show _ → True); exact fun _ => trivial) | ((with_reducible show _ ≤ maxLen); simp only [maxLen]; omega) | ((with_reducible show appOk _ _ _); exact Or.inl rfl) | ((with_reducible first | refine Ends.ret ?_ | refine Ends.normal ?_); simp only [aRes, show Tryz.f159.results.toList = [.tmp 6] from rfl, aRess, aResV, oneOf, List.getD_cons_zero, List.getD_cons_succ]) | (simp only [aop, Option.isSome_some, List.length_map, Bool.and_true, memOf, St.eval, List.getD_cons_zero, List.getD_cons_succ, aBin, binI, aLen, aBuiltin, aIdxS, aSlice, aBuildSlice, aAppend, aDst, aSrc, cellsOf, storable, storeL, fillPV, zrep, getI, upd, Int.toNat_natCast, Nat.mul_one, List.map_cons, List.map_nil, List.length_cons, List.length_nil, List.drop_zero, List.take_succ_cons, List.take_zero, List.set_cons_zero, List.all_cons, List.all_nil, List.append_nil, Option.map_some, Option.map_none, Option.bind_some, Option.getD_some, Option.getD_none, if_true, if_false, Bool.false_eq_true, true_and, Nat.reduceAdd, Nat.reduceMul, Nat.reduceEqDiff, Nat.reduceLT, Nat.reduceLeDiff, Value.cells, Value.oneCell', and_self, Nat.zero_add, se22, us9]; (all_goals fail_if_success show False))
  · obtain ⟨h1, h2⟩ := cutI_end ⟨hf, hi, ho, ho2, hq⟩ (.inl (by omega))
    exact Out.val (by simp only [upd]; rfl) (by rw [← List.map_singleton (f := vS), ← List.map_append]; exact flat_strs) (by rw [← h1]; simp) (by rw [← h1]; simp)
  · obtain ⟨h1, h2⟩ := cutI_hit ⟨hf, hi, ho, ho2, hq⟩ (by omega) (by omega) (UInt8.toNat_inj.1 (by omega))
    refine Rnd.normal ⟨x.out ++ [s.extract x.from_ x.i], x.i + 1, x.i + 1⟩ h1 (by simp; omega) ?_
    rw [wrap_id (x := (x.i : Int) + 1) (by omega) (by omega)]
    exact Weak.rows [⟨131168, 0, 9, ((x.out ++ [s.extract x.from_ x.i]).map vS)⟩] (by simp) (by simp) (by intro e he; simp only [List.mem_cons, List.not_mem_nil, or_false] at he; rcases he with rfl <;> exact ⟨by simp [upd], by first | exact flat_strs | exact flat_wts | exact flat_nil | (repeat' with_reducible first | exact flat_nil | exact flat_b | exact flat_vstrs | exact flat_vwts | refine Flat.cons ?_ ?_)⟩) rfl (by simp [All2, vw, vwA, vwC, kap, clean_b, vS]) (fun _ h => h.elim)
  · have h1 := cutI_miss ⟨hf, hi, ho, ho2, hq⟩ (by omega) (by omega) (fun e => hc (by rw [e]))
    refine Rnd.normal ⟨x.out, x.from_, x.i + 1⟩ h1 (by simp; omega) ?_
    rw [wrap_id (x := (x.i : Int) + 1) (by omega) (by omega)]
    exact Weak.rows [⟨0, 0, 9, (x.out.map vS)⟩] (by simp) (by simp) (by intro e he; simp only [List.mem_cons, List.not_mem_nil, or_false] at he; rcases he with rfl <;> exact ⟨by simp [upd], by first | exact flat_strs | exact flat_wts | exact flat_nil | (repeat' with_reducible first | exact flat_nil | exact flat_b | exact flat_vstrs | exact flat_vwts | refine Flat.cons ?_ ?_)⟩) rfl (by simp [All2, vw, vwA, vwC, kap, clean_b, vS]) (fun _ h => h.elim)
  · obtain ⟨h1, h2⟩ := cutI_end ⟨hf, hi, ho, ho2, hq⟩ (.inr (by omega))
    exact Out.val (by simp only [upd]; rfl) (by rw [← List.map_singleton (f := vS), ← List.map_append]; exact flat_strs) (by rw [← h1]; simp) (by rw [← h1]; simp)
end Go.Proofs.YtknciobaifdafaaGreatDoor.T

/- The library's functions that the store calls, as contracts of the engine. -/
set_option linter.unusedVariables false
set_option maxRecDepth 100000
set_option linter.unusedSimpArgs false
namespace Go.Proofs.YtknciobaifdafaaGreatDoor.T
open Go Go.RowKit Go.Sort Go.Pv Go.Proofs.YtknciobaifdafaaGreatDoor.EF
theorem named_maxLen : Tryz.prog.globalNamed "internal/bytealg.MaxLen" = some 0 := by kernel_rfl
theorem named_pow : Tryz.prog.globalNamed "internal/strconv.uint64pow10" = some 3 := by kernel_rfl
theorem named_syn : Tryz.prog.globalNamed "strconv.ErrSyntax" = some 1 := by kernel_rfl
theorem named_rng : Tryz.prog.globalNamed "strconv.ErrRange" = some 2 := by kernel_rfl
theorem below_drew (w : World) (n : Nat) : Below w.heap.size w (w.drewN n) := ⟨rfl, rfl, rfl, Nat.le_refl _, fun k _ => rfl⟩
theorem below_grow (w : World) (os : Array Obj) : Below w.heap.size w (grow w os) :=
  ⟨rfl, rfl, rfl, by simp [grow], fun k h => by simp [grow, Array.getElem?_append_left h]⟩
theorem below_bytes (w : World) (e : TypeId) (s : ByteArray) : Below w.heap.size w (Lib.bytesWorld w e s) :=
  ⟨rfl, rfl, rfl, by rw [Lib.bytesWorld_size]; omega, fun i hi => Lib.bytesWorld_at_old w e s i (by omega)⟩
theorem itoa_ok (n : Int) (h0 : -9223372036854775808 ≤ n) (h1 : n ≤ 9223372036854775807) : Ok Tryz.prog 143 [vI n] (vS (itoaB n)) [] :=
  Ok.below (us := [.int .i64 n]) fun w hg => (Tryz.strconv_Itoa n h0 h1 w (hg.pow _ named_pow)).mono fun e w' ⟨he, k, os, hw⟩ =>
    ⟨_, he, by subst hw; exact (below_drew w k).trans (below_grow (w.drewN k) os), fun _ _ => .b _⟩
theorem cut_ok (s sep : ByteArray) (hs : s.size < 4294967281) : Ok Tryz.prog 115 [vS s, vS sep] (.b (.tuple #[.string (cutB s sep).1, .string (cutB s sep).2.1, .bool (cutB s sep).2.2])) [] :=
  Ok.below (us := [.string s, .string sep]) fun w hg => by
    obtain ⟨m, hm⟩ := hg.maxLen _ named_maxLen
    exact (Tryz.strings_Cut s sep m w hs hm).mono fun e w' ⟨he, n, hw⟩ => ⟨_, he, hw ▸ below_drew w n, fun _ _ => .b _⟩
theorem trim_ok (s p : ByteArray) : Ok Tryz.prog 116 [vS s, vS p] (vS (trimB s p)) [] :=
  Ok.below (us := [.string s, .string p]) fun w hg => (Tryz.strings_TrimPrefix s p w).mono fun e w' ⟨he, hw⟩ => ⟨_, he, hw ▸ Below.refl _ _, fun _ _ => .b _⟩
theorem split_ok (s sep : ByteArray) (hs : s.size < 4294967281) (h1 : 1 ≤ sep.size) : Ok Tryz.prog 119 [vS s, vS sep] (.ref 0 0 (splitL s sep).length) [(9, (splitL s sep).map vS)] := by
  have hle := Lib.countB_le sep h1 s.size s (Nat.le_refl _)
  have hlen : (splitL s sep).length = Lib.countB s sep + 1 := Lib.splitB_all sep h1 0 _ s rfl
  refine Ok.made (us := [.string s, .string sep]) (by rw [hlen]; unfold maxLen; omega) fun w hg => ?_
  obtain ⟨m, hm⟩ := hg.maxLen _ named_maxLen
  refine (Tryz.strings_Split s sep m w hs hm h1).mono fun e w' ⟨he, hw⟩ => ⟨_, _, by rw [hlen]; exact he, by omega, by unfold maxLen; omega, ?_, ?_, hw, fun j x hj φ D => ?_⟩
  · have : (splitL s sep).length = Lib.countB s sep + 1 := hlen
    unfold splitL at this
    rw [cellsOf_eq ti9]
    simp [this]
  · unfold splitL; simp
  · unfold splitL at hj
    simp at hj
    obtain ⟨y, hy, rfl⟩ := hj
    simp [hy]
    exact .b _
theorem join_ok {mem : Mem} {i n : Nat} {l : List ByteArray} {sep : ByteArray} (hi : mem i = .row 9 (l.map vS)) (hn : n = l.length) (hn0 : 0 < n) (hN : l.length ≤ 140737488355328) (hlen : (Lib.join (l.map (·.data.toList)) sep.data.toList).length ≤ 140737488355328) :
    CallM Tryz.prog 144 [.ref i 0 n, vS sep] mem fun y m => y = vS (joinB l sep) ∧ m = mem :=
  CallM.strs hi hn hn0 fun w bk c hg hc hb hcap => Tryz.strings_Join bk 0 c l sep w hc hb hN hcap hlen
theorem atoi_good (s : ByteArray) (hs : s.size ≤ 9223372036854775806) (v : Int) (h : Lib.atoiAll s.data.toList = .ok v) : Ok Tryz.prog 117 [vS s] (.tup [vI v, .b .nilIface]) [] :=
  Ok.below (us := [.string s]) fun w hg => (Tryz.strconv_Atoi_ok s hs v h w).mono fun e w' ⟨he, hw⟩ =>
    ⟨_, he, by rcases hw with rfl | ⟨t, rfl⟩ <;> first | exact Below.refl _ _ | exact below_bytes _ _ _, fun φ D => .tup rfl fun j x hj => by
      rcases j with _ | _ | j <;> simp at hj
      · subst hj; exact .b _
      · subst hj; exact .b _⟩
theorem atoi_bad (s : ByteArray) (hs : s.size ≤ 281474976710656) (h : ∀ v, Lib.atoiAll s.data.toList ≠ .ok v) : Ok Tryz.prog 117 [vS s] (.tup [vI (badI s), .err]) [] := by
  have go : ∀ (z : Int) (w : World), (Calls Tryz.prog 117 #[.string s] w fun e w' => ∃ N t p, e = .returned (.tuple #[.int .i64 z, .iface t p]) ∧ w.heap.size ≤ N ∧ Below w.heap.size w w') →
      Calls Tryz.prog 117 #[.string s] w fun e w' => ∃ v, e = .returned v ∧ Below w.heap.size w w' ∧ ∀ (φ : Phi) (D : Nat → Prop), RV Tryz.prog φ D w' (.tup [vI z, .err]) v := fun z w hc =>
    hc.mono fun e w' ⟨N, t, p, he, _, hb⟩ => ⟨_, he, hb, fun φ D => .tup rfl fun j x hj => by
      rcases j with _ | _ | j <;> simp at hj
      · subst hj; exact .b _
      · subst hj; exact .err _ _⟩
  unfold badI
  cases ha : Lib.atoiAll s.data.toList
  case ok v => exact absurd ha (h v)
  case range =>
    refine Ok.below (us := [.string s]) fun w hg => ?_
    obtain ⟨tp, p, hv⟩ := hg.rng _ named_rng
    exact go _ w ((Tryz.strconv_Atoi_range_var s hs ha tp p w hv).mono fun e w' ⟨N, he, h1, _, h2⟩ => ⟨N, _, _, he, h1, h2⟩)
  refine Ok.below (us := [.string s]) fun w hg => ?_
  obtain ⟨tp, p, hv⟩ := hg.syn _ named_syn
  exact go _ w ((Tryz.strconv_Atoi_syntax_var s hs ha tp p w hv).mono fun e w' ⟨N, he, h1, _, h2⟩ => ⟨N, _, _, he, h1, h2⟩)
end Go.Proofs.YtknciobaifdafaaGreatDoor.T

/- Walks of the store's functions, part 2: numbers and texts. -/
set_option linter.unusedVariables false
set_option maxRecDepth 100000
set_option linter.unusedSimpArgs false
namespace Go.Proofs.YtknciobaifdafaaGreatDoor.T
open Go Go.Pv Go.Proofs.YtknciobaifdafaaGreatDoor.EF
theorem l1Dec_pos (n : Nat) (h : (n : Int) ≤ 9223372036854775807) : Ok Tryz.prog 162 [vI n] (vS (itoaB n)) [] := by
  revert h
  refine Nat.strongRecOn n fun n ih h => ?_
  have ihd : 10 ≤ n → Ok Tryz.prog 162 [vI (IntKind.i64.wrap ((n : Int).tdiv 10))] (vS (itoaB (n / 10 : Nat))) [] := fun hn => by
    rw [show (10 : Int) = ((10 : Nat) : Int) from rfl, tdiv_wrap h]
    exact ih _ (by omega) (by omega)
  have hs := itoaB_size (n / 10 : Nat) (by omega) (by have : n / 10 ≤ n := Nat.div_le_self ..; omega)
  refine Ok.walk Tryz.func162 rfl ?_; simp only [startSt, show Tryz.f162.ntmps = 28 from rfl, List.length_cons, List.length_nil, Nat.reduceAdd, Nat.reduceSub, List.replicate, List.cons_append, List.nil_append]
  repeat' first | (with_reducible first | refine W.seq ?_ | refine W.region ?_ | refine W_ret ?_ | refine W_skip ?_ | refine Seq.normal ?_ | refine Seq.ret ?_ | refine aops_nil ?_ | refine aheadU_nil ?_) | ((with_reducible apply ahead_callF); (case hg => exact rfl); (case ho => exact rfl); (case hc => exact rfl); (case hf => exact rfl); (case hok => first | exact ihd (by omega)); (case hcal => first | assumption | kernel_rfl); (case hcl => (with_reducible simp only [List.map_cons, List.map_nil, List.forall_mem_cons, St.eval, List.getD_cons_zero, List.getD_cons_succ]); (repeat' with_reducible first | exact Cln.b _ | exact cln_strs | exact cln_wts | exact cln_nil | refine And.intro ?_ ?_ | refine Cln.agg ?_ | rw [List.forall_mem_cons])); (case' h => dsimp only [putL, List.set])) | ((with_reducible refine aops_run ?_ (fun K' hK' => ?_)); exact rfl) | ((with_reducible show aheadU _ _ _ _ _ ({ dst := some 26, op := _, type := _, pos := _, after := _, guard := _ } :: _) _ _ _); (with_reducible refine aheadU_run1 _ 7 (List.mem_cons_self ..) ?_ ?_ ?_ ?_ ?_ ?_ ?_ (fun K' hK' => ?_)); (constructor <;> (dsimp only; omega)); kernel_rfl; (simp only [addU, upd, if_true]); decide; rfl; rfl; rfl) | ((with_reducible refine aheadU_run ?_ ?_ ?_ (fun K' hA' => ?_)); exact rfl; exact rfl; exact rfl) | ((with_reducible refine hA'.1 _ ?_); clear hA'; dsimp only [putL, List.set]) | ((with_reducible refine hA'.2 _ _ _ ?_); clear hA'; dsimp only [putL, List.set]) | ((with_reducible refine W.drawU (id := 7) (n := 11) mixed ?_ ?_ ?_ ?_); kernel_rfl; (simp only [List.length_cons, List.length_nil]; omega); (intro k h1 h2; first | rfl | ((try simp only [rowsAt, impRows, List.map_nil]); (repeat rw [upd_ne _ _ (by omega)]) <;> rfl) | (simp only [upd]; (repeat' split) <;> first | rfl | omega)); dsimp only [List.take, List.drop]) | ((with_reducible refine hK' _ _ ?_); clear hK'; dsimp only [put, List.set]) | ((with_reducible refine hK' _ ?_); clear hK'; dsimp only [putL, List.set]) | ((with_reducible apply W_cond); (case hc => exact rfl); (case' h2 => (intro hc; replace hc := of_decide_eq_false hc)); (case' h1 => (intro hc; replace hc := of_decide_eq_true hc)); all_goals try (exfalso; first | omega | exact hc rfl | exact hc trivial | exact Bool.noConfusion hc)) | (with_reducible first | refine And.intro ?_ ?_) | ((with_reducible first | show (_ : Int) < _ | show (_ : Int) ≤ _ | show (_ : Int) ≠ _ | show (_ : Nat) < _ | show (_ : Nat) ≤ _ | show (_ : Nat) ≠ _); omega) | ((with_reducible show _ ≤ maxLen); simp only [maxLen]; omega) | ((with_reducible show _ + _ ≤ 9223372036854775807); (simp only [ofInts_size, List.length_cons, List.length_nil]; omega)) | ((with_reducible first | refine Ends.ret ?_ | refine Ends.normal ?_); simp only [aRes, show Tryz.f162.results.toList = [.tmp 2] from rfl, aRess, aResV, oneOf, List.getD_cons_zero, List.getD_cons_succ, addU, Nat.reduceAdd]) | (simp only [aop, St.eval, List.getD_cons_zero, List.getD_cons_succ, aBin, binI, binS, aBuildSlice, aSrc, aConv, cellsOf, storeL, fillPV, zrep, toBytes, upd, Nat.mul_one, List.map_cons, List.map_nil, List.length_cons, List.length_nil, List.drop_zero, List.take_succ_cons, List.take_zero, List.set_cons_zero, List.append_nil, Option.map_some, Option.bind_some, if_true, true_and, Nat.reduceAdd, Nat.reduceMul, Nat.reduceLeDiff, Value.cells, and_self, Nat.zero_add, by46, se46, ui3, ui5, us9]; (all_goals fail_if_success show False))
  · refine Out.flat' ?_
    rw [wrap_id (by omega) (by omega), show (48 : Int) + (n : Int) = ((48 + n : Nat) : Int) by omega, u8wrap (by omega), ← itoaB_small (by omega)]
  · refine Out.flat' ?_
    have e : (n : Int).tmod 10 = ((n % 10 : Nat) : Int) := by rw [Int.tmod_eq_emod_of_nonneg (by omega)]; simp
    rw [e, wrap_id (by omega) (by omega), show (48 : Int) + ((n % 10 : Nat) : Int) = ((48 + n % 10 : Nat) : Int) by omega, u8wrap (by omega), ← itoaB_step (by omega)]
theorem l1Dec_ok (n : Int) (h0 : -9223372036854775807 ≤ n) (h1 : n ≤ 9223372036854775807) : Ok Tryz.prog 162 [vI n] (vS (itoaB n)) [] := by
  by_cases hn : 0 ≤ n
  · have := l1Dec_pos n.toNat (by omega)
    rwa [Int.toNat_of_nonneg hn] at this
  have hm : Ok Tryz.prog 162 [vI (IntKind.i64.wrap (0 - n))] (vS (itoaB (-n))) [] := by
    rw [wrap_id (by omega) (by omega), Int.zero_sub]
    have := l1Dec_pos (-n).toNat (by omega)
    rwa [Int.toNat_of_nonneg (by omega)] at this
  have hs := itoaB_size (-n) (by omega) (by omega)
  refine Ok.walk Tryz.func162 rfl ?_; simp only [startSt, show Tryz.f162.ntmps = 28 from rfl, List.length_cons, List.length_nil, Nat.reduceAdd, Nat.reduceSub, List.replicate, List.cons_append, List.nil_append]
  repeat' first | (with_reducible first | refine W.seq ?_ | refine W.region ?_ | refine W_ret ?_ | refine W_skip ?_ | refine Seq.normal ?_ | refine Seq.ret ?_ | refine aops_nil ?_) | ((with_reducible apply aops_callF); (case hg => exact rfl); (case ho => exact rfl); (case hc => exact rfl); (case hf => exact rfl); (case hok => first | exact hm); (case hcal => first | assumption | kernel_rfl); (case hcl => (with_reducible simp only [List.map_cons, List.map_nil, List.forall_mem_cons, St.eval, List.getD_cons_zero, List.getD_cons_succ]); (repeat' with_reducible first | exact Cln.b _ | exact cln_strs | exact cln_wts | exact cln_nil | refine And.intro ?_ ?_ | refine Cln.agg ?_ | rw [List.forall_mem_cons])); (case' h => dsimp only [put, List.set])) | ((with_reducible refine aops_run ?_ (fun K' hK' => ?_)); exact rfl) | ((with_reducible refine hK' _ _ ?_); clear hK'; dsimp only [put, List.set]) | ((with_reducible apply W_cond); (case hc => exact rfl); (case' h2 => (intro hc; replace hc := of_decide_eq_false hc)); (case' h1 => (intro hc; replace hc := of_decide_eq_true hc)); all_goals try (exfalso; first | omega | exact hc rfl | exact hc trivial | exact Bool.noConfusion hc)) | (with_reducible first | refine And.intro ?_ ?_) | ((with_reducible show _ + _ ≤ 9223372036854775807); (simp only [bytes_size, List.length_cons, List.length_nil, List.size_toArray]; omega)) | ((with_reducible first | refine Ends.ret ?_ | refine Ends.normal ?_); simp only [aRes, show Tryz.f162.results.toList = [.tmp 2] from rfl, aRess, aResV, oneOf, List.getD_cons_zero, List.getD_cons_succ]) | (simp only [aop, St.eval, List.getD_cons_zero, List.getD_cons_succ, aBin, binI, binS, aUn, true_and]; (all_goals fail_if_success show False))
  exact Out.flat' (congrArg _ (itoaB_neg (by omega)).symm)
end Go.Proofs.YtknciobaifdafaaGreatDoor.T
