/- Walks of the laws: FnStoreRise. -/
import Derived.Test.YtknciobaifdafaaGreatDoorQEZ
import Derived.Test.YtknciobaifdafaaGreatDoorQX9
import Derived.Test.YtknciobaifdafaaGreatDoorQY6
set_option linter.unusedVariables false
set_option maxRecDepth 100000
set_option maxHeartbeats 4000000
set_option linter.unusedSimpArgs false
namespace Go.Proofs.YtknciobaifdafaaGreatDoor.T
open Go Go.Pv Go.Proofs.YtknciobaifdafaaGreatDoor.EF
theorem nM {f : FuncId} {args : List PV} {s : Stor} {k : Int} (h : Ok Tryz.prog f args (.tup [dJ s, vI k]) (aJ s)) : Ok Tryz.prog f args (.tup [aN s, vI k]) [] := by
  refine h.weak ?_
  simp only [aH]
  exact kp []
theorem Lr {d : Dk} (hr : d.room ≤ 9223372036854775807) (hl : d.left ≤ 9223372036854775807) : (dn (ai d)).1.disk.room ≤ 9223372036854775807 ∧ (dn (ai d)).1.disk.left ≤ 9223372036854775807 := by
  unfold dn
  split
  · rename_i h
    have hb := (lC hr hl h).1
    have hd := lS hb
    have h1 := hd.1.room
    have h2 := hd.1.left
    unfold nD
    split <;> exact ⟨h1.2, h2.2⟩
  · exact ⟨by decide, by decide⟩
theorem yF (c : List Int) (hc : ∀ k, 0 ≤ c.getD k 0 ∧ c.getD k 0 ≤ 255) (hl : c.length ≤ 9223372036854775807) : Ok Tryz.prog 6 [.val c.length (c.map vU8)] (vB true) [] := by
  have y2 : (true == true) = true := rfl
  by_cases hlen : c.length ≤ 1048576
  · have hC : CodeOk c := ⟨hc, hlen⟩
    have hD := G9 c hC
    obtain ⟨q1, q2, q3, q4⟩ := AY hC
    generalize gu c = d at hD q1 q2 q3 q4
    have hI := nM (wB d (by omega) (by omega) (by omega) (by omega))
    have hS := ji d (by omega) (by omega) (by omega) (by omega)
    have hb := ru (d := d) (by omega) (by omega)
    have hlaw := fun s => Nk (d := d) (s := s)
    have hlim : (dn (ai d)).1.disk.room ≤ 9223372036854775807 ∧ (dn (ai d)).1.disk.left ≤ 9223372036854775807 := Lr (by omega) (by omega)
    obtain ⟨⟨s, n⟩, hR⟩ : ∃ R, R = dn (ai d) := ⟨_, rfl⟩
    rw [← hR] at hI hS hb hlaw hlim
    dsimp only at hI hS hb hlim
    have hJ := iR s s (by omega) (by omega) (by omega) (by omega) (by omega) (by omega)
    rw [decide_eq_true rfl] at hJ
    have hnn : decide (n = n) = true := decide_eq_true rfl
    by_cases hn : n = 0
    · subst hn
      obtain ⟨was, r1, r2, r3, r4, r5, r6, r7⟩ := hlaw s rfl
      have hW := wS (gU d (by omega) (by omega))
      rw [iY, r1] at hW
      dsimp only at hW
      have hX := nM (wB s.disk (by omega) (by omega) hlim.1 hlim.2)
      have hbx := ru (d := s.disk) hlim.1 hlim.2
      generalize dn (ai s.disk) = X at hX r6 r7 hbx
      obtain ⟨x, k⟩ := X
      dsimp only at hX r6 r7 hbx
      have hT1 := dW s.pages was.pages (by omega) (by rw [← r2]; omega)
      rw [decide_eq_true r2] at hT1
      have w1 : IntKind.i64.wrap (was.turn + 1) = was.turn + 1 := af (by omega) (by omega)
      have e1 : decide (s.turn = was.turn + 1) = true := decide_eq_true r3
      have e2 : (!decide (k = 1)) = true := by simp [r6]
      by_cases hk : k = 0
      · have ek : decide (k = 0) = true := decide_eq_true hk
        have hT2 := dW x.pages s.pages (by omega) (by omega)
        rw [decide_eq_true (r7 hk)] at hT2
        refine stO Tryz.func6 [.tmp 2] 90 rfl rfl rfl ?_
        repeat' first | refine sS ?_ | ((with_reducible show aC ..); first | refine cF rfl rfl rfl rfl hJ ?_ | refine cF rfl rfl rfl rfl hT1 ?_ | refine cF rfl rfl rfl rfl hT2 ?_ | refine cR rfl rfl rfl rfl hD ?_ | refine cR rfl rfl rfl rfl hI ?_ | refine cR rfl rfl rfl rfl hS ?_ | refine cR rfl rfl rfl rfl hW ?_ | refine cR rfl rfl rfl rfl hX ?_) | refine sO (fun K' hK' => ?_) | (refine sE hK' ?_; clear hK') | (refine sD (fun hc => ?_) (fun hc => ?_) <;> try exact sZ hc) | ((with_reducible first | refine En.ret ?_ | refine En.normal ?_); simp only [go_sem, Nat.reduceAdd, Nat.reduceMul]) | (simp only [go_sem, Nat.reduceAdd, Nat.reduceMul, Nat.reduceEqDiff, Nat.reduceLT, Nat.reduceLeDiff, w1, e1, e2, ek, decide_true, Bool.not_true]; (all_goals fail_if_success show False)) | fail
        all_goals exact Out.flat' rfl
      · have ek : decide (k = 0) = false := decide_eq_false hk
        refine stO Tryz.func6 [.tmp 2] 90 rfl rfl rfl ?_
        repeat' first | refine sS ?_ | ((with_reducible show aC ..); first | refine cF rfl rfl rfl rfl hJ ?_ | refine cF rfl rfl rfl rfl hT1 ?_ | refine cR rfl rfl rfl rfl hD ?_ | refine cR rfl rfl rfl rfl hI ?_ | refine cR rfl rfl rfl rfl hS ?_ | refine cR rfl rfl rfl rfl hW ?_ | refine cR rfl rfl rfl rfl hX ?_) | refine sO (fun K' hK' => ?_) | refine sY ?_ | (refine sE hK' ?_; clear hK') | (refine sD (fun hc => ?_) (fun hc => ?_) <;> try exact sZ hc) | ((with_reducible first | refine En.ret ?_ | refine En.normal ?_); simp only [go_sem, Nat.reduceAdd, Nat.reduceMul]) | (simp only [go_sem, Nat.reduceAdd, Nat.reduceMul, Nat.reduceEqDiff, Nat.reduceLT, Nat.reduceLeDiff, w1, e1, e2, ek, decide_true, Bool.not_true, Bool.not_false]; (all_goals fail_if_success show False)) | fail
        all_goals exact Out.flat' rfl
    · have en : decide (n = 0) = false := decide_eq_false hn
      refine stO Tryz.func6 [.tmp 2] 90 rfl rfl rfl ?_
      repeat' first | refine sS ?_ | ((with_reducible show aC ..); first | refine cF rfl rfl rfl rfl hJ ?_ | refine cR rfl rfl rfl rfl hD ?_ | refine cR rfl rfl rfl rfl hI ?_ | refine cR rfl rfl rfl rfl hS ?_) | refine sO (fun K' hK' => ?_) | (refine sE hK' ?_; clear hK') | (refine sD (fun hc => ?_) (fun hc => ?_) <;> try exact sZ hc) | ((with_reducible first | refine En.ret ?_ | refine En.normal ?_); simp only [go_sem, Nat.reduceAdd, Nat.reduceMul]) | (simp only [go_sem, Nat.reduceAdd, Nat.reduceMul, Nat.reduceEqDiff, Nat.reduceLT, Nat.reduceLeDiff, en, decide_true, Bool.not_true, Bool.not_false]; (all_goals fail_if_success show False)) | fail
      all_goals exact Out.flat' rfl
  · refine stO Tryz.func6 [.tmp 2] 90 rfl rfl rfl ?_
    repeat' first | refine sS ?_ | refine sO (fun K' hK' => ?_) | (refine sE hK' ?_; clear hK') | (refine sD (fun hc => ?_) (fun hc => ?_) <;> try exact sZ hc) | ((with_reducible first | refine En.ret ?_ | refine En.normal ?_); simp only [go_sem]) | (simp only [go_sem]; (all_goals fail_if_success show False)) | fail
    all_goals exact Out.flat' rfl
end Go.Proofs.YtknciobaifdafaaGreatDoor.T
