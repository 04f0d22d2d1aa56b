/- The draws of the store, walked, part 5: falls of disks. -/
import Derived.Test.YtknciobaifdafaaGreatDoorQEZ
import Derived.Test.YtknciobaifdafaaGreatDoorQY
import Derived.Test.YtknciobaifdafaaGreatDoorQDC
import Derived.Test.YtknciobaifdafaaGreatDoorQQ
set_option linter.unusedVariables false
set_option maxRecDepth 100000
set_option maxHeartbeats 4000000
set_option linter.unusedSimpArgs false
namespace Go.Proofs.YtknciobaifdafaaGreatDoor.T
open Go Go.Pv Go.Proofs.YtknciobaifdafaaGreatDoor.EF
theorem Ns {m : Int} (h : 0 ≤ m) (k : Nat) : (m / 2 ^ k).tdiv 2 = m / 2 ^ (k + 1) := by
  have h1 : 0 ≤ m / 2 ^ k := Int.ediv_nonneg h (Int.pow_nonneg (by decide))
  rw [Int.tdiv_eq_ediv_of_nonneg h1, Int.pow_succ, Int.ediv_ediv_of_nonneg (Int.pow_nonneg (by decide))]
theorem IK {m : Int} (h : 0 ≤ m) (k : Nat) : 0 ≤ m / 2 ^ k ∧ m / 2 ^ k ≤ m := ⟨Int.ediv_nonneg h (Int.pow_nonneg (by decide)), Int.ediv_le_self _ h⟩
theorem Qr (mask : Int) (i : Nat) (hm : 0 ≤ mask ∧ mask ≤ 9223372036854775807) (hi : i ≤ 1000000) : Ok Tryz.prog 203 [vI mask, vI i] (vB (dK mask i)) [] := by
  have q0 : (i : Int).tmod 60 = ((i % 60 : Nat) : Int) := by rw [Int.tmod_eq_emod_of_nonneg (by omega)]; omega
  have hk : i % 60 < 60 := Nat.mod_lt _ (by decide)
  unfold dK
  generalize i % 60 = k at q0 hk ⊢
  refine stO Tryz.func203 [.tmp 4] 17 rfl rfl rfl ?_
  repeat' first | refine sS ?_ | refine sO (fun K' hK' => ?_) | (refine sE hK' ?_; clear hK') | refine sU ?_ ?_ | exact sX | (simp only [go_sem, q0]; (all_goals fail_if_success show False)) | fail
  refine W.loop (fun n : Nat => ⟨[vI (mask / 2 ^ (k - n)), .any, .any, .any, .any, vI n, .any, .any, .any, .any, .any, .any, .any, .any, .any, .any, .any], bM⟩) (fun n => n ≤ k) (fun n => n) k ?wk0 (Nat.le_refl _) (fun n hn => ?_)
  case wk0 => rw [Nat.sub_self, Int.pow_zero, Int.ediv_one]; exact kp []
  by_cases h0 : 0 < n
  · obtain ⟨m, rfl⟩ : ∃ m, n = m + 1 := ⟨n - 1, by omega⟩
    have e1 := Ns hm.1 (k - (m + 1))
    rw [show k - (m + 1) + 1 = k - m by omega] at e1
    have e2 := IK hm.1 (k - m)
    have w1 : IntKind.i64.wrap (mask / 2 ^ (k - m)) = mask / 2 ^ (k - m) := af (by omega) (by omega)
    have w2 : IntKind.i64.wrap (((m + 1 : Nat) : Int) - 1) = (m : Int) := by rw [af (by omega) (by omega)]; omega
    repeat' first | refine sS ?_ | refine sO (fun K' hK' => ?_) | (refine sE hK' ?_; clear hK') | (refine sD (fun hc => ?_) (fun hc => ?_) <;> try exact sZ hc) | refine sU ?_ ?_ | exact sX | (simp only [go_sem, e1, w1, w2]; (all_goals fail_if_success show False)) | fail
    refine Rnd.normal m (by omega) (by omega) ?_
    exact kp []
  · obtain rfl : n = 0 := by omega
    have e2 := IK hm.1 (k - 0)
    have e3 : (mask / 2 ^ (k - 0)).tmod 2 = (mask / 2 ^ k) % 2 := by rw [Nat.sub_zero] at e2 ⊢; rw [Int.tmod_eq_emod_of_nonneg e2.1]
    repeat' first | refine sS ?_ | refine sO (fun K' hK' => ?_) | (refine sE hK' ?_; clear hK') | (refine sD (fun hc => ?_) (fun hc => ?_) <;> try exact sZ hc) | refine sU ?_ ?_ | exact sX | ((with_reducible first | refine En.ret ?_ | refine En.normal ?_); simp only [go_sem]) | (simp only [go_sem, e3]; (all_goals fail_if_success show False)) | fail
    exact Out.flat' rfl
theorem O5 (text was : ByteArray) (bytes : Int) (h1 : text.size ≤ 1000000) (h2 : was.size ≤ 1000000) (hb : -1000000000 ≤ bytes ∧ bytes ≤ 1000000000) : Ok Tryz.prog 204 [vS text, vS was, vI bytes] (vS (fA text was (min (min bytes ((text.size : Int) - 1)).toNat text.size))) [] := by
  have w1 : IntKind.i64.wrap ((text.size : Int) - 1) = (text.size : Int) - 1 := af (by omega) (by omega)
  obtain ⟨k, hk⟩ : ∃ k, k = min (min bytes ((text.size : Int) - 1)).toNat text.size := ⟨_, rfl⟩
  have key1 : was.size ≤ k → fA text was k = text.extract 0 k := fun h => by
    refine BQ ?_
    rw [gW, vT]
    unfold tear
    rw [List.drop_eq_nil_of_le (by rw [mD]; exact h), List.append_nil, List.drop_zero]
  have key2 : fA text was k = text.extract 0 k ++ was.extract k was.size := by
    refine BQ ?_
    rw [gW, FH, vT, vT]
    unfold tear
    rw [List.drop_zero, show was.size = was.data.toList.length from rfl, List.take_length]
  rw [← hk]
  refine stO Tryz.func204 [.tmp 6] 31 rfl rfl rfl ?_
  repeat' first | refine sS ?_ | refine sO (fun K' hK' => ?_) | refine yA (fun K' hA' => ?_) | ((with_reducible show W _ _ (.region 7 _ _) _ _); refine sV 8 ?_) | (refine sE hK' ?_; clear hK') | (refine sE hA' ?_; clear hA') | (refine sD (fun hc => ?_) (fun hc => ?_) <;> try exact sZ hc) | refine sU ?_ ?_ | exact sX | ((with_reducible first | refine En.ret ?_ | refine En.normal ?_); simp only [go_sem]) | (simp only [go_sem, w1]; (all_goals fail_if_success show False)) | fail
  all_goals first
    | (simp only [ByteArray.size_extract]; omega)
    | exact Out.flat' (congrArg Value.string (by rw [key1 (by omega)]; congr 1; omega))
    | exact Out.flat' (congrArg Value.string (by rw [key2]; congr 1 <;> congr 1 <;> omega))
def pV (keep : Nat → Bool) (cut : Nat → Option (ByteArray → Nat)) (w : Wt) (i : Nat) (c : List ByteArray) : List ByteArray := if keep i = true then c.set w.cell.toNat w.text else match cut i with | some f => c.set w.cell.toNat (fA w.text (cellAt c w.cell.toNat) (min (f w.text) w.text.size)) | none => c
theorem Ak (keep : Nat → Bool) (cut : Nat → Option (ByteArray → Nat)) (w : Wt) (i : Nat) (c : List ByteArray) : (pV keep cut w i c).length = c.length := by
  unfold pV
  split
  · rw [List.length_set]
  · split
    · rw [List.length_set]
    · rfl
theorem Am {keep : Nat → Bool} {cut : Nat → Option (ByteArray → Nat)} {ws : List Wt} {i : Nat} {c : List ByteArray} (h : i < ws.length) : cu keep cut (ws.drop i) i c = cu keep cut (ws.drop (i + 1)) (i + 1) (pV keep cut (ws.getD i wt0) i c) := by
  have e : ws.drop i = ws.getD i wt0 :: ws.drop (i + 1) := by
    rw [List.getD_eq_getElem?_getD, List.getElem?_eq_getElem h]
    exact List.drop_eq_getElem_cons h
  rw [e]
  rfl
theorem Ap {d : Dk} (h : dkOk d = true) : d.cells.length = 42 ∧ d.waits.length ≤ 100 ∧ (∀ k, k < d.waits.length → 0 ≤ (d.waits.getD k wt0).cell ∧ (d.waits.getD k wt0).cell ≤ 41 ∧ (d.waits.getD k wt0).text.size ≤ 1200) ∧ ∀ k, (cellAt d.cells k).size ≤ 1200 := by
  unfold dkOk at h
  rw [Bool.and_eq_true, Bool.and_eq_true] at h
  obtain ⟨⟨h1, h2⟩, h3⟩ := h
  have h1 := of_decide_eq_true h1
  refine ⟨h1.1, h1.2.1, fun k hk => ?_, nI.1 h2⟩
  have := List.all_eq_true.1 h3 _ (fV (d := wt0) hk)
  unfold wtOk at this
  rw [Bool.and_eq_true] at this
  exact ⟨(of_decide_eq_true this.1).1, (of_decide_eq_true this.1).2, of_decide_eq_true this.2⟩
theorem Nu {keep : Nat → Bool} {cut : Nat → Option (ByteArray → Nat)} {w : Wt} {i : Nat} {c : List ByteArray} (hw : w.text.size ≤ 1200) (hc : ∀ k, (cellAt c k).size ≤ 1200) (k : Nat) : (cellAt (pV keep cut w i c) k).size ≤ 1200 := by
  unfold pV
  split
  · rw [at_set]; split
    · exact hw
    · exact hc k
  · split
    · rw [at_set]; split
      · exact CS hw (hc _)
      · exact hc k
    · exact hc k
theorem nK (d : Dk) (mask cut bytes : Int) (h1 : d.cells.length ≤ 2000000) (h2 : d.waits.length ≤ 2000000) (hm : -9223372036854775807 ≤ mask ∧ mask ≤ 9223372036854775807) (hb : -1000000000 ≤ bytes ∧ bytes ≤ 1000000000) : Ok Tryz.prog 185 [vDk d, vI mask, vI cut, vI bytes] (vDk (dH d mask cut bytes)) [] := by
  have hO := yJ d (by omega) (by omega)
  have hC := ig d h1 h2
  by_cases hok : dkOk d = true ∧ 0 ≤ mask
  · obtain ⟨f1, f2, f3, f4⟩ := Ap hok.1
    have hm0 := hok.2
    rw [hok.1] at hO
    rw [iZ hok.1 hok.2]
    refine stO Tryz.func185 [.cell 8 33] 66 rfl rfl rfl ?_
    repeat' first | refine sS ?_ | ((with_reducible show aC ..); first | refine cF rfl rfl rfl rfl hO ?_ | refine cR rfl rfl rfl rfl hC ?_) | refine sO (fun K' hK' => ?_) | (refine sE hK' ?_; clear hK') | (refine sD (fun hc => ?_) (fun hc => ?_) <;> try exact sZ hc) | (simp only [go_sem, Nat.reduceAdd, Nat.reduceMul, Nat.reduceEqDiff, Nat.reduceLT, Nat.reduceLeDiff, Bool.not_true]; (all_goals fail_if_success show False)) | fail
    refine W.loop (fun x : Nat × List ByteArray => ⟨[.any, vI mask, vI cut, vI bytes, .ptr 0 0, .any, .any, .any, .ptr 1 0, .ptr 2 0, vI x.1, .any, .any, .any, .any, .any, .any, .any, .any, .any, .any, .any, .any, .any, .any, .any, .any, .any, .any, .any, .any, .any, .any, .any, .any, .any, .any, .any, .any, .any, .any, .any, .any, .any, .any, .any, .any, .any, .any, .any, .any, .any, .any, .any, .any, .any, .any, .any, .any, .any, .any, .any, .any, .any, .any, .any], aZ [(0, 33, [.val d.cells.length (d.cells.map vS), .val d.waits.length (d.waits.flatMap cWt), vI d.room, vI d.left]), (1, 33, [.b (.slice none 0 0), .b (.slice none 0 0), vI 0, vI 0]), (2, 33, [.ref 3 0 d.cells.length, .ref 4 0 d.waits.length, vI d.room, vI d.left]), (3, 9, x.2.map vS), (4, 110, d.waits.flatMap cWt)]⟩)
      (fun x => x.1 ≤ d.waits.length ∧ x.2.length = 42 ∧ (∀ k, (cellAt x.2 k).size ≤ 1200) ∧ cu (dK mask) (gz cut bytes) d.waits 0 d.cells = cu (dK mask) (gz cut bytes) (d.waits.drop x.1) x.1 x.2) (fun x => d.waits.length - x.1) (0, d.cells) ?wk0 ⟨Nat.zero_le _, f1, f4, rfl⟩ (fun x hx => ?_)
    case wk0 => exact kp [⟨16384, 0, 33, [.val d.cells.length (d.cells.map vS), .val d.waits.length (d.waits.flatMap cWt), vI d.room, vI d.left]⟩, ⟨16400, 1, 33, [.b (.slice none 0 0), .b (.slice none 0 0), vI 0, vI 0]⟩, ⟨65568, 2, 33, [.ref 3 0 d.cells.length, .ref 4 0 d.waits.length, vI d.room, vI d.left]⟩, ⟨65552, 3, 9, (d.cells.map vS)⟩, ⟨65553, 4, 110, (d.waits.flatMap cWt)⟩]
    obtain ⟨i, c⟩ := x
    dsimp only at hx ⊢
    obtain ⟨hi, hcl, hcs, hG⟩ := hx
    by_cases hil : i < d.waits.length
    · have hdr := dG hil
      have hat := f3 i hil
      have hbit := Qr mask i ⟨hm0, hm.2⟩ (by omega)
      have hst := Am (keep := dK mask) (cut := gz cut bytes) (c := c) hil
      have hlen1 := Ak (dK mask) (gz cut bytes) (d.waits.getD i wt0) i c
      have hsm1 := Nu (keep := dK mask) (cut := gz cut bytes) (i := i) hat.2.2 hcs
      have hcell : (d.waits.getD i wt0).cell.toNat < c.length := by omega
      have hwas := hcs (d.waits.getD i wt0).cell.toNat
      have htorn := O5 (d.waits.getD i wt0).text (cellAt c (d.waits.getD i wt0).cell.toNat) bytes (by omega) (by omega) hb
      obtain ⟨X, hX⟩ : ∃ X, X = pV (dK mask) (gz cut bytes) (d.waits.getD i wt0) i c := ⟨_, rfl⟩
      have hXd := hX
      unfold pV at hXd
      rw [← hX] at hst hlen1 hsm1
      rw [hst] at hG
      cases hkp : dK mask i with
      | true =>
        rw [hkp] at hbit hXd
        rw [if_pos rfl] at hXd
        repeat' first | refine sS ?_ | ((with_reducible show aC ..); refine cF rfl rfl rfl rfl hbit ?_) | refine sO (fun K' hK' => ?_) | (refine sE hK' ?_; clear hK') | (refine sD (fun hc => ?_) (fun hc => ?_) <;> try exact sZ hc) | refine sU ?_ ?_ | exact sX | (simp only [go_sem, Nat.reduceAdd, Nat.reduceMul, Nat.reduceEqDiff, Nat.reduceLT, Nat.reduceLeDiff, hdr, List.take_succ_cons, List.take_zero]; (all_goals fail_if_success show False)) | fail
        refine Rnd.normal (i + 1, X) ⟨by dsimp only; omega, by rw [hlen1]; exact hcl, hsm1, hG⟩ (by dsimp only; omega) ?_
        rw [af (x := (i : Int) + 1) (by omega) (by omega), show (c.map vS).set (d.waits.getD i wt0).cell.toNat (.b (.string ((d.waits.getD i wt0).text))) = (c.set (d.waits.getD i wt0).cell.toNat ((d.waits.getD i wt0).text)).map vS from dm, ← hXd]
        exact kp [⟨0, 0, 33, [.val d.cells.length (d.cells.map vS), .val d.waits.length (d.waits.flatMap cWt), vI d.room, vI d.left]⟩, ⟨1, 1, 33, [.b (.slice none 0 0), .b (.slice none 0 0), vI 0, vI 0]⟩, ⟨2, 2, 33, [.ref 3 0 d.cells.length, .ref 4 0 d.waits.length, vI d.room, vI d.left]⟩, ⟨3, 3, 9, (X.map vS)⟩, ⟨4, 4, 110, (d.waits.flatMap cWt)⟩]
      | false =>
        rw [hkp] at hbit hXd
        rw [if_neg (by simp)] at hXd
        by_cases hcut : (i : Int) = cut
        · unfold gz at hXd
          rw [if_pos hcut] at hXd
          dsimp only at hXd
          repeat' first | refine sS ?_ | refine sN ?_ ?_ | ((with_reducible show aC ..); refine cF rfl rfl rfl rfl hbit ?_) | ((with_reducible show uC ..); refine uF rfl rfl rfl rfl htorn ?_) | refine sO (fun K' hK' => ?_) | refine yA (fun K' hA' => ?_) | ((with_reducible show W _ _ (.region 11 _ _) _ _); refine sV 15 ?_) | (refine sE hK' ?_; clear hK') | (refine sE hA' ?_; clear hA') | (refine sD (fun hc => ?_) (fun hc => ?_) <;> try exact sZ hc) | refine sU ?_ ?_ | exact sX | (simp only [go_sem, Nat.reduceAdd, Nat.reduceMul, Nat.reduceEqDiff, Nat.reduceLT, Nat.reduceLeDiff, hdr, List.take_succ_cons, List.take_zero]; (all_goals fail_if_success show False)) | fail
          refine Rnd.normal (i + 1, X) ⟨by dsimp only; omega, by rw [hlen1]; exact hcl, hsm1, hG⟩ (by dsimp only; omega) ?_
          rw [af (x := (i : Int) + 1) (by omega) (by omega), show (c.map vS).set (d.waits.getD i wt0).cell.toNat (.b (.string (fA (d.waits.getD i wt0).text (cellAt c (d.waits.getD i wt0).cell.toNat) (min (min bytes (((d.waits.getD i wt0).text.size : Int) - 1)).toNat (d.waits.getD i wt0).text.size)))) = (c.set (d.waits.getD i wt0).cell.toNat (fA (d.waits.getD i wt0).text (cellAt c (d.waits.getD i wt0).cell.toNat) (min (min bytes (((d.waits.getD i wt0).text.size : Int) - 1)).toNat (d.waits.getD i wt0).text.size))).map vS from dm, ← hXd]
          exact kp [⟨0, 0, 33, [.val d.cells.length (d.cells.map vS), .val d.waits.length (d.waits.flatMap cWt), vI d.room, vI d.left]⟩, ⟨1, 1, 33, [.b (.slice none 0 0), .b (.slice none 0 0), vI 0, vI 0]⟩, ⟨2, 2, 33, [.ref 3 0 d.cells.length, .ref 4 0 d.waits.length, vI d.room, vI d.left]⟩, ⟨3, 3, 9, (X.map vS)⟩, ⟨4, 4, 110, (d.waits.flatMap cWt)⟩]
        · unfold gz at hXd
          rw [if_neg hcut] at hXd
          dsimp only at hXd
          repeat' first | refine sS ?_ | ((with_reducible show aC ..); refine cF rfl rfl rfl rfl hbit ?_) | refine sO (fun K' hK' => ?_) | (refine sE hK' ?_; clear hK') | (refine sD (fun hc => ?_) (fun hc => ?_) <;> try exact sZ hc) | refine sU ?_ ?_ | exact sX | (simp only [go_sem, Nat.reduceAdd, Nat.reduceMul, Nat.reduceEqDiff, Nat.reduceLT, Nat.reduceLeDiff, hdr, List.take_succ_cons, List.take_zero]; (all_goals fail_if_success show False)) | fail
          refine Rnd.normal (i + 1, X) ⟨by dsimp only; omega, by rw [hlen1]; exact hcl, hsm1, hG⟩ (by dsimp only; omega) ?_
          rw [af (x := (i : Int) + 1) (by omega) (by omega), ← hXd]
          exact kp [⟨0, 0, 33, [.val d.cells.length (d.cells.map vS), .val d.waits.length (d.waits.flatMap cWt), vI d.room, vI d.left]⟩, ⟨1, 1, 33, [.b (.slice none 0 0), .b (.slice none 0 0), vI 0, vI 0]⟩, ⟨2, 2, 33, [.ref 3 0 d.cells.length, .ref 4 0 d.waits.length, vI d.room, vI d.left]⟩, ⟨3, 3, 9, (X.map vS)⟩, ⟨4, 4, 110, (d.waits.flatMap cWt)⟩]
    · obtain rfl : i = d.waits.length := by omega
      rw [hG, List.drop_length]
      repeat' first | refine sS ?_ | refine sO (fun K' hK' => ?_) | (refine sE hK' ?_; clear hK') | (refine sD (fun hc => ?_) (fun hc => ?_) <;> try exact sZ hc) | ((with_reducible first | refine En.ret ?_ | refine En.normal ?_); simp only [go_sem, Nat.reduceAdd, Nat.reduceEqDiff, Nat.reduceLT, Nat.reduceLeDiff]) | (simp only [go_sem, Nat.reduceAdd, Nat.reduceEqDiff, Nat.reduceLT, Nat.reduceLeDiff]; (all_goals fail_if_success show False)) | fail
      rw [show cu (dK mask) (gz cut bytes) [] d.waits.length c = c from rfl]
      have hce : d.cells.length = c.length := by omega
      exact Weak.intro [] (by simp) (by simp) (by simp) rfl (by simp [All2, vw, vwA, vwC, kap, upd, ax, vS, hce]) (fun _ h => h.elim)
  · have e : dH d mask cut bytes = dk0 := if_neg hok
    rw [e]
    generalize dkOk d = bo at hO hok
    cases bo with
    | false =>
      refine stO Tryz.func185 [.cell 8 33] 66 rfl rfl rfl ?_
      repeat' first | refine sS ?_ | ((with_reducible show aC ..); refine cF rfl rfl rfl rfl hO ?_) | refine sO (fun K' hK' => ?_) | refine sY ?_ | (refine sE hK' ?_; clear hK') | (refine sD (fun hc => ?_) (fun hc => ?_) <;> try exact sZ hc) | ((with_reducible first | refine En.ret ?_ | refine En.normal ?_); simp only [go_sem, Nat.reduceAdd, Nat.reduceEqDiff, Nat.reduceLT, Nat.reduceLeDiff]) | (simp only [go_sem, Nat.reduceAdd, Nat.reduceMul, Nat.reduceEqDiff, Nat.reduceLT, Nat.reduceLeDiff, Bool.not_false]; (all_goals fail_if_success show False)) | fail
      all_goals exact Weak.intro [] (by simp) (by simp) (by simp) rfl (by simp [All2, vw, vwA, vwC, ax, dk0]) (fun _ h => h.elim)
    | true =>
      have hm0 : mask < 0 := by simp at hok; omega
      refine stO Tryz.func185 [.cell 8 33] 66 rfl rfl rfl ?_
      repeat' first | refine sS ?_ | ((with_reducible show aC ..); refine cF rfl rfl rfl rfl hO ?_) | refine sO (fun K' hK' => ?_) | (refine sE hK' ?_; clear hK') | (refine sD (fun hc => ?_) (fun hc => ?_) <;> try exact sZ hc) | ((with_reducible first | refine En.ret ?_ | refine En.normal ?_); simp only [go_sem, Nat.reduceAdd, Nat.reduceEqDiff, Nat.reduceLT, Nat.reduceLeDiff]) | (simp only [go_sem, Nat.reduceAdd, Nat.reduceMul, Nat.reduceEqDiff, Nat.reduceLT, Nat.reduceLeDiff, Bool.not_true]; (all_goals fail_if_success show False)) | fail
      all_goals exact Weak.intro [] (by simp) (by simp) (by simp) rfl (by simp [All2, vw, vwA, vwC, ax, dk0]) (fun _ h => h.elim)
end Go.Proofs.YtknciobaifdafaaGreatDoor.T
set_option linter.unusedVariables false
set_option maxRecDepth 100000
set_option maxHeartbeats 4000000
set_option linter.unusedSimpArgs false
namespace Go.Proofs.YtknciobaifdafaaGreatDoor.T
open Go Go.Pv Go.Proofs.YtknciobaifdafaaGreatDoor.EF
theorem Aq (s : Stor) (h1 : s.disk.cells.length ≤ 2000000) (h2 : s.disk.waits.length ≤ 2000000) (h3 : s.pages.length ≤ 2000000) : Ok Tryz.prog 50 [aN s] (dJ s) (aJ s) := by
  have hC := ig s.disk h1 h2
  refine stO Tryz.func50 [.cell 2 35] 15 rfl rfl rfl ?_
  repeat' first | refine sS ?_ | ((with_reducible show aC ..); refine cR rfl rfl rfl rfl hC ?_) | refine sO (fun K' hK' => ?_) | (refine sE hK' ?_; clear hK') | refine sU ?_ ?_ | exact sX | ((with_reducible first | refine En.ret ?_ | refine En.normal ?_); simp only [go_sem, Nat.reduceAdd, Nat.reduceMul, Nat.reduceEqDiff, Nat.reduceLT, Nat.reduceLeDiff]) | (simp only [go_sem, Nat.reduceAdd, Nat.reduceMul, Nat.reduceEqDiff, Nat.reduceLT, Nat.reduceLeDiff]; (all_goals fail_if_success show False)) | fail
  exact kp [⟨49184, 0, 9, (s.disk.cells.map vS)⟩, ⟨49185, 1, 110, (s.disk.waits.flatMap cWt)⟩, ⟨65584, 2, 9, (s.pages.map vS)⟩]
theorem wM (s : Stor) (room left : Int) (h1 : s.disk.cells.length ≤ 2000000) (h2 : s.disk.waits.length ≤ 2000000) (h3 : s.pages.length ≤ 2000000) (hok : ag s = true ∧ -1 ≤ room ∧ -1 ≤ left) : Ok Tryz.prog 26 [aN s, vI room, vI left] (dJ (setS s room left)) (aJ (setS s room left)) := by
  have hO := vY s (by omega) (by omega) h3
  have hC := Aq s h1 h2 h3
  rw [hok.1] at hO
  have hr := hok.2.1
  have hl := hok.2.2
  rw [show setS s room left = ⟨⟨s.disk.cells, s.disk.waits, room, left⟩, s.turn, s.tries, s.next, s.pages⟩ from if_pos hok]
  refine stO Tryz.func26 [.cell 6 35] 29 rfl rfl rfl ?_
  repeat' first | refine sS ?_ | ((with_reducible show aC ..); first | refine cF rfl rfl rfl rfl hO ?_ | refine cR rfl rfl rfl rfl hC ?_) | refine sO (fun K' hK' => ?_) | (refine sI (fun hg => ?_) (fun hg K' hK' => ?_) <;> try exact sZ hg) | (refine sE hK' ?_; clear hK') | (refine sD (fun hc => ?_) (fun hc => ?_) <;> try exact sZ hc) | ((with_reducible first | refine En.ret ?_ | refine En.normal ?_); simp only [go_sem, Nat.reduceAdd, Nat.reduceMul, Nat.reduceEqDiff, Nat.reduceLT, Nat.reduceLeDiff]) | (simp only [go_sem, Nat.reduceAdd, Nat.reduceMul, Nat.reduceEqDiff, Nat.reduceLT, Nat.reduceLeDiff, Bool.not_true]; (all_goals fail_if_success show False)) | fail
  all_goals exact kp [⟨65552, 0, 9, (s.disk.cells.map vS)⟩, ⟨65553, 1, 110, (s.disk.waits.flatMap cWt)⟩, ⟨65554, 2, 9, (s.pages.map vS)⟩]
theorem Ar (d : Dk) (hd : DkB d) (hc : ¬ d.left = 0) : Ok Tryz.prog 132 [vDk d] (.agg [.ref 0 0 (aV d).cells.length, .b (.slice none 0 0), vI (aV d).room, vI (aV d).left]) [(9, (aV d).cells.map vS)] := by
  have h1 : d.cells.length ≤ 2000000 := by have := hd.cells; omega
  have h2 : d.waits.length ≤ 2000000 := by have := hd.waits; omega
  have hw : ∀ k, k < d.waits.length → 0 ≤ (d.waits.getD k wt0).cell ∧ (d.waits.getD k wt0).cell ≤ 41 := fun k hk => hd.ok _ (fV hk)
  have hl := hd.cells
  have hC := ig d h1 h2
  refine stO Tryz.func132 [.cell 2 33] 39 rfl rfl rfl ?_
  repeat' first | refine sS ?_ | ((with_reducible show aC ..); refine cR rfl rfl rfl rfl hC ?_) | refine sO (fun K' hK' => ?_) | (refine sE hK' ?_; clear hK') | (refine sD (fun hc => ?_) (fun hc => ?_) <;> try exact sZ hc) | (simp only [go_sem, Nat.reduceAdd, Nat.reduceMul, Nat.reduceEqDiff, Nat.reduceLT, Nat.reduceLeDiff]; (all_goals fail_if_success show False)) | fail
  have hs : aV d = ⟨aj d.cells d.waits, [], d.room, au d.left⟩ := if_neg hc
  refine W.loop (fun i : Nat => ⟨[.any, .ptr 0 0, .ptr 1 0, .ptr 2 0, vI i, .any, .any, .any, .any, .any, .any, .any, .any, .any, .any, .any, .any, .any, .any, .any, .any, .any, .any, .any, .any, .any, .any, .any, .any, .any, .any, .any, .any, .any, .any, .any, .any, .any, .any], aZ [(0, 33, [.val d.cells.length (d.cells.map vS), .val d.waits.length (d.waits.flatMap cWt), vI d.room, vI d.left]), (1, 33, [.b (.slice none 0 0), .b (.slice none 0 0), vI 0, vI 0]), (2, 33, [.ref 3 0 d.cells.length, .ref 4 0 d.waits.length, vI d.room, vI d.left]), (3, 9, (aj d.cells (d.waits.take i)).map vS), (4, 110, d.waits.flatMap cWt)]⟩)
    (fun i => i ≤ d.waits.length ∧ (aj d.cells (d.waits.take i)).length = d.cells.length) (fun i => d.waits.length - i) 0 ?wk0 ⟨Nat.zero_le _, rfl⟩ (fun i hi => ?_)
  case wk0 => exact kp [⟨16384, 0, 33, [.val d.cells.length (d.cells.map vS), .val d.waits.length (d.waits.flatMap cWt), vI d.room, vI d.left]⟩, ⟨16400, 1, 33, [.b (.slice none 0 0), .b (.slice none 0 0), vI 0, vI 0]⟩, ⟨32800, 2, 33, [.ref 3 0 d.cells.length, .ref 4 0 d.waits.length, vI d.room, vI d.left]⟩, ⟨32784, 3, 9, (d.cells.map vS)⟩, ⟨32785, 4, 110, (d.waits.flatMap cWt)⟩]
  obtain ⟨hi, hlen⟩ := hi
  have hwi := hw i
  repeat' first | refine sS ?_ | (with_reducible refine vN ?_ ?_) | (with_reducible refine qX ?_ ?_) | ((with_reducible show aC ..); refine cF rfl rfl rfl rfl (yI _ (by have := hd.left; omega)) ?_) | refine sO (fun K' hK' => ?_) | refine yA (fun K' hA' => ?_) | ((with_reducible show W _ _ (.region 7 _ _) _ _); refine sV 15 ?_) | (refine sE hK' ?_; clear hK') | (refine sE hA' ?_; clear hA') | (refine sD (fun hc => ?_) (fun hc => ?_) <;> try exact sZ hc) | refine sU ?_ ?_ | exact sX | ((with_reducible first | refine En.ret ?_ | refine En.normal ?_); simp only [go_sem, Nat.reduceAdd, Nat.reduceEqDiff, Nat.reduceLT, Nat.reduceLeDiff]) | (simp only [go_sem, Nat.reduceAdd, Nat.reduceEqDiff, Nat.reduceLT, Nat.reduceLeDiff]; (all_goals fail_if_success show False)) | fail
  · refine Rnd.normal (i + 1) ⟨by omega, by rw [eQ (by omega), List.length_set]; exact hlen⟩ (by omega) ?_
    rw [af (x := (i : Int) + 1) (by omega) (by omega), eQ (by omega), dm]
    exact kp [⟨0, 0, 33, [.val d.cells.length (d.cells.map vS), .val d.waits.length (d.waits.flatMap cWt), vI d.room, vI d.left]⟩, ⟨1, 1, 33, [.b (.slice none 0 0), .b (.slice none 0 0), vI 0, vI 0]⟩, ⟨2, 2, 33, [.ref 3 0 d.cells.length, .ref 4 0 d.waits.length, vI d.room, vI d.left]⟩, ⟨3, 3, 9, (((aj d.cells (d.waits.take i)).set (d.waits.getD i wt0).cell.toNat (d.waits.getD i wt0).text).map vS)⟩, ⟨4, 4, 110, (d.waits.flatMap cWt)⟩]
  · rw [show d.waits.take i = d.waits from List.take_of_length_le (by omega)] at *
    rw [hs]
    dsimp only
    rw [hlen]
    exact kp [⟨3, 0, 9, ((aj d.cells d.waits).map vS)⟩]
end Go.Proofs.YtknciobaifdafaaGreatDoor.T
set_option linter.unusedVariables false
set_option maxRecDepth 100000
set_option maxHeartbeats 4000000
set_option linter.unusedSimpArgs false
namespace Go.Proofs.YtknciobaifdafaaGreatDoor.T
open Go Go.Pv Go.Proofs.YtknciobaifdafaaGreatDoor.EF
theorem KZ (s : Stor) (h1 : s.disk.cells.length ≤ 2000000) (h2 : s.disk.waits.length ≤ 2000000) (h3 : s.pages.length ≤ 2000000) : Ok Tryz.prog 50 [aN s] (.agg [.val s.disk.cells.length (s.disk.cells.map vS), .val s.disk.waits.length (s.disk.waits.flatMap cWt), vI s.disk.room, vI s.disk.left, vI s.turn, vI s.tries, vI s.next, .ref 0 0 s.pages.length]) [(9, s.pages.map vS)] := by
  refine (Aq s h1 h2 h3).weak ?_
  simp only [aH]
  exact kp [⟨2, 0, 9, (s.pages.map vS)⟩]
theorem La (was : Stor) (nd : Dk) (t tr nx room left : Int) (P C : List ByteArray) (hl : ¬ left = 0) : OkS Tryz.prog 134 [aN was, .agg [.val nd.cells.length (nd.cells.map vS), .val nd.waits.length (nd.waits.flatMap cWt), vI nd.room, vI nd.left, vI t, vI tr, vI nx, .ref 0 0 P.length], .agg [.ref 1 0 C.length, .b (.slice none 0 0), vI room, vI left]] [(9, P.map vS), (9, C.map vS)] (fun i => i = 0 ∨ i = 1)
    (.tup [.agg [.ref 1 0 C.length, .b (.slice none 0 0), vI room, vI left, vI t, vI tr, vI nx, .ref 0 0 P.length], vI 0]) [(9, P.map vS), (9, C.map vS)] := by
  refine stS Tryz.func134 [.cell 6 35, .tmp 7] 20 rfl rfl rfl ?_
  repeat' first | refine sS ?_ | refine sO (fun K' hK' => ?_) | (refine sE hK' ?_; clear hK') | (refine sD (fun hc => ?_) (fun hc => ?_) <;> try exact sZ hc) | ((with_reducible first | refine En.ret ?_ | refine En.normal ?_); simp only [go_sem, Nat.reduceAdd, Nat.reduceEqDiff, Nat.reduceLT, Nat.reduceLeDiff]) | (simp only [go_sem, Nat.reduceAdd, Nat.reduceMul, Nat.reduceEqDiff, Nat.reduceLT, Nat.reduceLeDiff]; (all_goals fail_if_success show False)) | fail
  all_goals exact kp [⟨0, 0, 9, (P.map vS)⟩, ⟨1, 1, 9, (C.map vS)⟩]
theorem Nv (l : List ByteArray) (n : Nat) : ∀ z ∈ l.map vS, HOk Tryz.prog z ∧ inC n z := fun z hz => by
  obtain ⟨y, _, rfl⟩ := List.mem_map.1 hz
  exact ⟨HOk.b _, trivial⟩
theorem Lc {mem : Mem} {a b : Nat} (was : Stor) (nd : Dk) (t tr nx room left : Int) (P C : List ByteArray) (hl : ¬ left = 0) (ha : mem a = .row 9 (P.map vS)) (hb : mem b = .row 9 (C.map vS)) (hab : a ≠ b) :
    aK Tryz.prog 134 [aN was, .agg [.val nd.cells.length (nd.cells.map vS), .val nd.waits.length (nd.waits.flatMap cWt), vI nd.room, vI nd.left, vI t, vI tr, vI nx, .ref a 0 P.length], .agg [.ref b 0 C.length, .b (.slice none 0 0), vI room, vI left]] mem
      fun y m => y = .tup [.agg [.ref b 0 C.length, .b (.slice none 0 0), vI room, vI left, vI t, vI tr, vI nx, .ref a 0 P.length], vI 0] ∧ m = mem := by
  refine aK.frameId (sg2 a b) (La was nd t tr nx room left P C hl) (fun i hi => ?_) (fun i e he => ?_) (fun e he => ?_) (fun i j hi hj e => ?_) (fun x hx => ?_) (fun e he z hz => ?_) ?_
  · simp only [List.length_cons, List.length_nil] at hi; omega
  · rcases i with _ | _ | i
    · simp at he; subst he; exact ha
    · simp at he; subst he; exact hb
    · simp at he
  · simp only [List.mem_cons, List.not_mem_nil, or_false] at he
    rcases he with rfl | rfl <;> (rw [List.map_map]; rfl)
  · simp only [List.length_cons, List.length_nil] at hi hj
    have hi' : i = 0 ∨ i = 1 := by omega
    have hj' : j = 0 ∨ j = 1 := by omega
    rcases hi' with rfl | rfl <;> rcases hj' with rfl | rfl <;> simp [sg2] at e <;> first | rfl | exact absurd e hab | exact absurd e.symm hab
  · simp only [List.mem_cons, List.not_mem_nil, or_false] at hx
    rcases hx with rfl | rfl | rfl
    all_goals refine ⟨fun z hz => ?_, fun z hz => ?_⟩
    all_goals
      simp only [List.mem_cons, List.not_mem_nil, or_false] at hz
      rcases hz with rfl | rfl | rfl | rfl | rfl | rfl | rfl | rfl
      all_goals first | exact dB | exact dF | exact HOk.b _ | exact .inl ⟨_, _, _, rfl⟩ | trivial | exact (by decide : (0 : Nat) < 2) | exact (by decide : (1 : Nat) < 2)
  · simp only [List.mem_cons, List.not_mem_nil, or_false] at he
    rcases he with rfl | rfl <;> exact Nv _ _ z hz
  · intro z hz
    simp only [List.mem_cons, List.not_mem_nil, or_false] at hz
    rcases hz with rfl | rfl
    · intro u hu
      simp only [List.mem_cons, List.not_mem_nil, or_false] at hu
      rcases hu with rfl | rfl | rfl | rfl | rfl | rfl | rfl | rfl
      all_goals first | exact HOk.b _ | exact .inl ⟨_, _, _, rfl⟩
    · exact HOk.b _
theorem IL (s : Stor) (hg : Go.Pv.Good s) (hrm : s.disk.room = -1) (hlf : s.disk.left = -1) (h9 : s.turn < 99999) : Ok Tryz.prog 84 [aN s] (.tup [dJ (ah s).1, vI (ah s).2]) (aJ (ah s).1) := by
  have hok := gV hg (by omega) (by omega)
  have hb := gZ (by omega) (by omega) hok
  have hd := hb.disk
  have hp := hb.pages
  have ht := hg.turn
  have hr := hb.tries
  have h1 : s.disk.cells.length ≤ 2000000 := by have := hd.cells; omega
  have h2 : s.disk.waits.length ≤ 2000000 := by have := hd.waits; omega
  have hps : ∀ q, (cellAt s.pages q).size ≤ 1100 := fun q => by
    rcases Nat.lt_or_ge q 20 with hq | hq
    · have := of_decide_eq_false (kN hg.big hq)
      unfold cellAt
      omega
    · rw [at_out (by omega)]; exact Nat.zero_le _
  have hC := KZ s h1 h2 (by omega)
  have hCd := jh s.disk h1 h2
  have hw1 : IntKind.i64.wrap (s.turn + 1) = s.turn + 1 := af (by omega) (by omega)
  have hwt0 : s.disk.waits.length = 0 := by rw [hg.waits]; rfl
  refine stO Tryz.func84 [.cell 2 35, .tmp 3] 92 rfl rfl rfl ?_
  repeat' first | refine sS ?_ | ((with_reducible show aC ..); refine cR rfl rfl rfl rfl hCd ?_) | refine sO (fun K' hK' => ?_) | (refine sE hK' ?_; clear hK') | (refine sD (fun hc => ?_) (fun hc => ?_) <;> try exact sZ hc) | (simp only [go_sem, Nat.reduceAdd, Nat.reduceMul, Nat.reduceEqDiff, Nat.reduceLT, Nat.reduceLeDiff]; (all_goals fail_if_success show False)) | fail
  refine W.loop (fun x : Nat × Dk => ⟨[.any, .ptr 0 0, .ptr 1 0, .any, .ptr 2 0, vI x.1, .any, .any, .any, .any, .any, .any, .any, .any, .any, .any, .any, .any, .any, .any, .any, .any, .any, .any, .any, .any, .any, .any, .any, .any, .any, .any, .any, .any, .any, .any, .any, .any, .any, .any, .any, .any, .any, .any, .any, .any, .any, .any, .any, .any, .any, .any, .any, .any, .any, .any, .any, .any, .any, .any, .any, .any, .any, .any, .any, .any, .any, .any, .any, .any, .any, .any, .any, .any, .any, .any, .any, .any, .any, .any, .any, .any, .any, .any, .any, .any, .any, .any, .any, .any, .any, .any], aZ [(0, 35, [.val s.disk.cells.length (s.disk.cells.map vS), .val s.disk.waits.length (s.disk.waits.flatMap cWt), vI s.disk.room, vI s.disk.left, vI s.turn, vI s.tries, vI s.next, .val s.pages.length (s.pages.map vS)]), (1, 35, [.b (.slice none 0 0), .b (.slice none 0 0), vI 0, vI 0, vI 0, vI 0, vI 0, .b (.slice none 0 0)]), (2, 33, [.val x.2.cells.length (x.2.cells.map vS), .val x.2.waits.length (x.2.waits.flatMap cWt), vI x.2.room, vI x.2.left])]⟩)
    (fun x => x.1 ≤ 20 ∧ DkB x.2 ∧ x.2.room = -1 ∧ x.2.left = -1 ∧ x.2.waits.length ≤ x.1 ∧ bH s.pages 20 0 s.disk = bH s.pages (20 - x.1) x.1 x.2) (fun x => 20 - x.1) (0, s.disk) ?wk0 ⟨Nat.zero_le _, hd, hrm, hlf, by dsimp only; omega, rfl⟩ (fun x hx => ?_)
  case wk0 => exact kp [⟨16384, 0, 35, [.val s.disk.cells.length (s.disk.cells.map vS), .val s.disk.waits.length (s.disk.waits.flatMap cWt), vI s.disk.room, vI s.disk.left, vI s.turn, vI s.tries, vI s.next, .val s.pages.length (s.pages.map vS)]⟩, ⟨16400, 1, 35, [.b (.slice none 0 0), .b (.slice none 0 0), vI 0, vI 0, vI 0, vI 0, vI 0, .b (.slice none 0 0)]⟩, ⟨65584, 2, 33, [.val s.disk.cells.length (s.disk.cells.map vS), .val s.disk.waits.length (s.disk.waits.flatMap cWt), vI s.disk.room, vI s.disk.left]⟩]
  obtain ⟨i, e⟩ := x
  obtain ⟨hi, he, her, hel, hew, hrest⟩ := hx
  dsimp only at hi he her hel hew hrest ⊢
  have hix : ((2 : Int) + (i : Int)).toNat = 2 + i := by omega
  have hcl := he.cells
  have hdc := lD (i : Int) (by omega)
  have hwk : i < 20 → wtOk ⟨2 + (i : Int), s.pages.getD i ByteArray.empty⟩ = true := fun h => by
    have := hps i
    unfold wtOk
    rw [Bool.and_eq_true]
    exact ⟨decide_eq_true (by dsimp only; omega), decide_eq_true (by unfold cellAt at this; dsimp only; omega)⟩
  have hWe : i < 20 → aO e (2 + (i : Int)) (s.pages.getD i ByteArray.empty) = (⟨e.cells, e.waits ++ [⟨2 + (i : Int), s.pages.getD i ByteArray.empty⟩], -1, -1⟩, true) := fun h => by
    rw [iD (by omega) (by rw [hwk h]; simp; omega), her, hel]; rfl
  have hW := iL e (2 + (i : Int)) (s.pages.getD i ByteArray.empty) he
  have hBw := fF he (2 + (i : Int)) (s.pages.getD i ByteArray.empty)
  have hk : i < 20 → bH s.pages 20 0 s.disk = bH s.pages ((19 - i) + 1) i e := fun h => by rw [hrest, show 20 - i = (19 - i) + 1 by omega]
  by_cases hi20 : i < 20
  · rw [hWe hi20] at hW hBw
    have hnx := fun (h : ¬ e.cells.getD (2 + i) ByteArray.empty = s.pages.getD i ByteArray.empty) => uA (k := 19 - i) h (by rw [hWe hi20])
    rw [hWe hi20] at hnx
    obtain ⟨W1, hW1⟩ : ∃ W1 : Dk, W1 = ⟨e.cells, e.waits ++ [⟨2 + (i : Int), s.pages.getD i ByteArray.empty⟩], -1, -1⟩ := ⟨_, rfl⟩
    rw [← hW1] at hW hBw hnx
    have f1 : W1.room = -1 := by rw [hW1]
    have f2 : W1.left = -1 := by rw [hW1]
    have f3 : W1.waits.length ≤ i + 1 := by rw [hW1]; simp; omega
    repeat' first | refine yQ ?_ | refine sP ?_ | ((with_reducible show W _ _ (.region 8 _ _) _ _); refine dA 15 12 147648 ?_) | refine sS ?_ | refine sN ?_ ?_ | ((with_reducible show uC ..); first | refine uF rfl rfl rfl rfl hdc ?_ | refine uR rfl rfl rfl rfl hW ?_) | refine sO (fun K' hK' => ?_) | refine yA (fun K' hA' => ?_) | ((with_reducible show W _ _ (.region 7 _ _) _ _); refine sV 12 ?_) | (refine sE hK' ?_; clear hK') | (refine sE hA' ?_; clear hA') | (refine sD (fun hc => ?_) (fun hc => ?_) <;> try exact sZ hc) | refine sU ?_ ?_ | exact sX | (simp only [go_sem, Nat.reduceAdd, Nat.reduceMul, Nat.reduceEqDiff, Nat.reduceLT, Nat.reduceLeDiff, hix, Bool.not_true]; (all_goals fail_if_success show False)) | fail
    · refine Rnd.normal (i + 1, W1) ⟨by dsimp only; omega, hBw, f1, f2, f3, ?_⟩ (by dsimp only; omega) ?_
      · dsimp only
        rw [hk hi20, hnx (by assumption), show 19 - i = 20 - (i + 1) by omega]
      · rw [af (x := (i : Int) + 1) (by omega) (by omega)]
        exact kp [⟨0, 0, 35, [.val s.disk.cells.length (s.disk.cells.map vS), .val s.disk.waits.length (s.disk.waits.flatMap cWt), vI s.disk.room, vI s.disk.left, vI s.turn, vI s.tries, vI s.next, .val s.pages.length (s.pages.map vS)]⟩, ⟨1, 1, 35, [.b (.slice none 0 0), .b (.slice none 0 0), vI 0, vI 0, vI 0, vI 0, vI 0, .b (.slice none 0 0)]⟩, ⟨2, 2, 33, [.val W1.cells.length (W1.cells.map vS), .val W1.waits.length (W1.waits.flatMap cWt), vI W1.room, vI W1.left]⟩]
    · refine Rnd.normal (i + 1, e) ⟨by dsimp only; omega, he, her, hel, by dsimp only; omega, ?_⟩ (by dsimp only; omega) ?_
      · dsimp only
        rw [hk hi20, uz (by assumption), show 19 - i = 20 - (i + 1) by omega]
      · rw [af (x := (i : Int) + 1) (by omega) (by omega)]
        exact kp [⟨0, 0, 35, [.val s.disk.cells.length (s.disk.cells.map vS), .val s.disk.waits.length (s.disk.waits.flatMap cWt), vI s.disk.room, vI s.disk.left, vI s.turn, vI s.tries, vI s.next, .val s.pages.length (s.pages.map vS)]⟩, ⟨1, 1, 35, [.b (.slice none 0 0), .b (.slice none 0 0), vI 0, vI 0, vI 0, vI 0, vI 0, .b (.slice none 0 0)]⟩, ⟨2, 2, 33, [.val e.cells.length (e.cells.map vS), .val e.waits.length (e.waits.flatMap cWt), vI e.room, vI e.left]⟩]
  · obtain rfl : i = 20 := by omega
    have hx : bH s.pages 20 0 s.disk = (e, true) := by rw [hrest]; rfl
    have hSy := l9 e he
    have e1d : aV e = ⟨aj e.cells e.waits, [], -1, -1⟩ := by rw [uH (by omega), her, hel]; rfl
    have hb1 := fG he
    obtain ⟨e1, he1⟩ : ∃ e1, e1 = aV e := ⟨_, rfl⟩
    rw [← he1] at hSy e1d hb1
    have hHd := oH (s.turn + 1) (by omega) (by omega)
    have hX := iL e1 ((s.turn + 1).tmod 2) (headB (s.turn + 1)) hb1
    have hhead := wE hg
    have hwX : aO e1 ((s.turn + 1).tmod 2) (headB (s.turn + 1)) = (⟨e1.cells, [⟨(s.turn + 1).tmod 2, headB (s.turn + 1)⟩], -1, -1⟩, true) := by
      have hwt : wtOk ⟨(s.turn + 1).tmod 2, headB (s.turn + 1)⟩ = true := by
        unfold wtOk
        rw [Bool.and_eq_true]
        exact ⟨decide_eq_true ⟨hhead.1, hhead.2.1⟩, decide_eq_true hhead.2.2⟩
      rw [iD (by rw [e1d]; exact (by decide : ¬ (-1 : Int) = 0)) (by rw [hwt, e1d]; simp), e1d]
      rfl
    have hbX := fF hb1 ((s.turn + 1).tmod 2) (headB (s.turn + 1))
    rw [hwX] at hX hbX
    obtain ⟨W2, hW2⟩ : ∃ W2 : Dk, W2 = ⟨e1.cells, [⟨(s.turn + 1).tmod 2, headB (s.turn + 1)⟩], -1, -1⟩ := ⟨_, rfl⟩
    rw [← hW2] at hX hbX hwX
    have hSx := Ar W2 hbX (by rw [hW2]; exact (by decide : ¬ (-1 : Int) = 0))
    have hsd : aV W2 = ⟨(aV W2).cells, [], -1, -1⟩ := by rw [hW2]; rfl
    have hz : ah s = (⟨⟨(aV W2).cells, [], -1, -1⟩, s.turn + 1, 0, 0, s.pages⟩, 0) := by
      unfold ah
      rw [if_neg (by omega), hx, if_pos rfl]
      dsimp only
      unfold fU
      rw [← he1, hwX]
      dsimp only
      rw [if_pos rfl]
      unfold endS
      rw [hsd]
      rfl
    rw [hz]
    have q1 : (aV W2).room = -1 := by rw [hsd]
    have q2 : (aV W2).left = -1 := by rw [hsd]
    rw [q1, q2] at hSx
    generalize (aV W2).cells = C at hSx ⊢
    obtain ⟨H, hH⟩ : ∃ H, H = headB (s.turn + 1) := ⟨_, rfl⟩
    rw [← hH] at hHd hX
    repeat' first | refine yQ ?_ | refine sP ?_ | ((with_reducible show W _ _ (.region 13 _ _) _ _); refine dA 16 13 229584 ?_) | refine sS ?_ | ((with_reducible show uC ..); refine uF rfl rfl rfl rfl hHd ?_) | ((with_reducible show aC ..); first | refine cR rfl rfl rfl rfl hSy ?_ | refine cR rfl rfl rfl rfl hC ?_) | ((with_reducible show uC ..); first | refine uR rfl rfl rfl rfl hX ?_ | refine uR rfl rfl rfl rfl hSx ?_) | refine sO (fun K' hK' => ?_) | refine yA (fun K' hA' => ?_) | ((with_reducible show W _ _ (.region 20 _ _) _ _); refine sV 7 ?_) | (refine sE hK' ?_; clear hK') | (refine sE hA' ?_; clear hA') | (refine sD (fun hc => ?_) (fun hc => ?_) <;> try exact sZ hc) | refine sU ?_ ?_ | exact sX | (simp only [go_sem, Nat.reduceAdd, Nat.reduceMul, Nat.reduceEqDiff, Nat.reduceLT, Nat.reduceLeDiff, hw1, Bool.not_true]; (all_goals fail_if_success show False)) | fail
    refine D5 (v := (344112, 9, C.map vS)) (k := 3) rfl rfl rfl rfl (by kernel_rfl) (by simp) (by omega) (by omega) (by intro h; exact absurd (h _ (by simp; exact .inr (.inr (.inl rfl))) (by decide)) (by decide)) (by simp [addU, upd]) (fun m2 hx2 => Lc (mem := m2) (a := 278544) (b := 344112) s s.disk (s.turn + 1) 0 0 (-1) (-1) s.pages C (by decide) ((hx2 _ (by simp [addU, upd])).trans (by simp only [addU, upd]; rfl)) ((hx2 _ (by simp [addU, upd])).trans (by simp only [addU, upd]; rfl)) (by omega)) ?_
    dsimp only [putL, List.set]
    repeat' first | refine sO (fun K' hK' => ?_) | refine yA (fun K' hA' => ?_) | (refine sE hK' ?_; clear hK') | (refine sE hA' ?_; clear hA') | ((with_reducible first | refine En.ret ?_ | refine En.normal ?_); simp only [go_sem, Nat.reduceAdd, Nat.reduceEqDiff, Nat.reduceLT, Nat.reduceLeDiff]) | (simp only [go_sem, Nat.reduceAdd, Nat.reduceEqDiff, Nat.reduceLT, Nat.reduceLeDiff]; (all_goals fail_if_success show False)) | fail
    all_goals
      refine Weak.trans (Weak.none (k := 7) (t := 110) (by simp [upd])) ?_
      simp only [aH]
      exact kp [⟨344112, 0, 9, (C.map vS)⟩, ⟨7, 1, 110, []⟩, ⟨278544, 2, 9, (s.pages.map vS)⟩]
end Go.Proofs.YtknciobaifdafaaGreatDoor.T
