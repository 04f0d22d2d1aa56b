/- Walks of the laws: FnStoreSet. -/
import Derived.Test.YtknciobaifdafaaGreatDoorQEZ
import Derived.Test.YtknciobaifdafaaGreatDoorQGN
import Derived.Test.YtknciobaifdafaaGreatDoorQGJ
import Derived.Test.YtknciobaifdafaaGreatDoorQD
import Derived.Test.YtknciobaifdafaaGreatDoorQU
import Derived.Test.YtknciobaifdafaaGreatDoorQY
set_option linter.unusedVariables false
set_option maxRecDepth 100000
set_option maxHeartbeats 40000000
set_option linter.unusedSimpArgs false
namespace Go.Proofs.YtknciobaifdafaaGreatDoor.T
open Go Go.Pv Go.Proofs.YtknciobaifdafaaGreatDoor.EF
theorem QA {f : FuncId} {args : List PV} {s : Stor} (h : Ok Tryz.prog f args (dJ s) (aJ s)) : Ok Tryz.prog f args (aN s) [] := by
  refine h.weak ?_
  simp only [aH]
  exact kp []
theorem Ll : ag bU = false := by
  rw [Bool.eq_false_iff]
  intro h
  have := (bG h).len
  exact absurd this (by decide)
theorem AV (c : List Int) (hc : ∀ k, 0 ≤ c.getD k 0 ∧ c.getD k 0 ≤ 255) (hl : c.length ≤ 9223372036854775807) : Ok Tryz.prog 4 [.val c.length (c.map vU8)] (vB true) [] := by
  by_cases hlen : c.length ≤ 1048576
  · have hC : CodeOk c := ⟨hc, hlen⟩
    have hD := IY c hC
    obtain ⟨hq, hq2, hq3⟩ := Lh hC
    generalize kz c = X at hD hq hq2 hq3
    obtain ⟨s, room, left⟩ := X
    dsimp only at hD hq hq2 hq3
    have q1 := hq.disk.cells
    have q2 := hq.disk.waits
    have q3 := hq.pages
    have hI := QA (xZ s room left (by omega) (by omega) (by omega))
    have hS := ku s room left (by omega) (by omega) (by omega)
    have hOI := iK s (by omega) (by omega) (by omega)
    have hOS := Gf s (by omega) (by omega) (by omega)
    rw [iI] at hI hOI
    have hT := dW s.pages s.pages (by omega) (by omega)
    rw [decide_eq_true rfl] at hT
    have hP : ∀ x : Stor, x.disk.cells.length ≤ 42 → x.disk.waits.length ≤ 102 → x.pages.length ≤ 20 → Ok Tryz.prog 25 [aN x, aN x] (vB true) [] ∧ Ok Tryz.prog 27 [aN x] (vB (ag x)) [] := fun x h1 h2 h3 => by
      have a := iR x x (by omega) (by omega) (by omega) (by omega) (by omega) (by omega)
      have b := iK x (by omega) (by omega) (by omega)
      rw [decide_eq_true rfl] at a
      rw [iI] at b
      exact ⟨a, b⟩
    by_cases hf : ag s = true ∧ -1 ≤ room ∧ -1 ≤ left
    · obtain ⟨k, hr, hlf⟩ := hf
      have e : fZ (ag s) s room left = ⟨⟨s.disk.cells, s.disk.waits, room, left⟩, s.turn, s.tries, s.next, s.pages⟩ := if_pos ⟨k, hr, hlf⟩
      have g := gV ((bG k).lim room left) hr hlf
      rw [e] at hI hS
      obtain ⟨hJ, hOx⟩ := hP ⟨⟨s.disk.cells, s.disk.waits, room, left⟩, s.turn, s.tries, s.next, s.pages⟩ q1 q2 (by dsimp only; omega)
      rw [g] at hOx
      rw [k] at hOI hOS
      refine stO Tryz.func4 [.tmp 2] 74 rfl rfl rfl ?_
      repeat' first | refine sS ?_ | ((with_reducible show aC ..); first | refine cF rfl rfl rfl rfl hOx ?_ | refine cF rfl rfl rfl rfl hOI ?_ | refine cF rfl rfl rfl rfl hT ?_) | ((with_reducible show uC ..); first | refine uF rfl rfl rfl rfl hJ ?_ | refine uF rfl rfl rfl rfl hOI ?_ | refine uF rfl rfl rfl rfl hOS ?_) | ((with_reducible show aC ..); first | refine cR rfl rfl rfl rfl hD ?_ | refine cR rfl rfl rfl rfl hI ?_) | ((with_reducible show uC ..); refine uR rfl rfl rfl rfl hS ?_) | refine sO (fun K' hK' => ?_) | refine sY ?_ | (refine sI (fun hg => ?_) (fun hg K' hK' => ?_) <;> try exact sZ hg) | refine yA (fun K' hA' => ?_) | ((with_reducible show W _ _ (.region 5 _ _) _ _); refine sV 14 ?_) | (refine sE hK' ?_; clear hK') | (refine sE hA' ?_; clear hA') | (refine sD (fun hc => ?_) (fun hc => ?_) <;> try exact sZ hc) | ((with_reducible first | refine En.ret ?_ | refine En.normal ?_); simp only [go_sem, Nat.reduceAdd, Nat.reduceMul]) | (simp only [go_sem, Nat.reduceAdd, Nat.reduceMul, Nat.reduceEqDiff, Nat.reduceLT, Nat.reduceLeDiff, Bool.not_true]; (all_goals fail_if_success show False)) | fail
      all_goals first
        | (exfalso; simp_all; done)
        | (simp only [decide_true, if_true]; exact Out.flat' rfl)
    · have e : fZ (ag s) s room left = bU := if_neg hf
      rw [e] at hI hS
      obtain ⟨hJ, hOx⟩ := hP bU (by decide) (by decide) (by decide)
      rw [Ll] at hOx
      generalize bU = z at hI hS hJ hOx
      cases hk : ag s with
      | false =>
        rw [hk] at hOI hOS
        refine stO Tryz.func4 [.tmp 2] 74 rfl rfl rfl ?_
        repeat' first | refine sS ?_ | ((with_reducible show aC ..); first | refine cF rfl rfl rfl rfl hOx ?_ | refine cF rfl rfl rfl rfl hOI ?_) | ((with_reducible show uC ..); first | refine uF rfl rfl rfl rfl hJ ?_ | refine uF rfl rfl rfl rfl hOI ?_ | refine uF rfl rfl rfl rfl hOS ?_) | ((with_reducible show aC ..); first | refine cR rfl rfl rfl rfl hD ?_ | refine cR rfl rfl rfl rfl hI ?_) | ((with_reducible show uC ..); refine uR rfl rfl rfl rfl hS ?_) | refine sO (fun K' hK' => ?_) | refine sY ?_ | refine yA (fun K' hA' => ?_) | ((with_reducible show W _ _ (.region 5 _ _) _ _); refine sV 14 ?_) | (refine sE hK' ?_; clear hK') | (refine sE hA' ?_; clear hA') | (refine sD (fun hc => ?_) (fun hc => ?_) <;> try exact sZ hc) | ((with_reducible first | refine En.ret ?_ | refine En.normal ?_); simp only [go_sem, Nat.reduceAdd, Nat.reduceMul]) | (simp only [go_sem, Nat.reduceAdd, Nat.reduceMul, Nat.reduceEqDiff, Nat.reduceLT, Nat.reduceLeDiff, Bool.not_true, Bool.not_false]; (all_goals fail_if_success show False)) | fail
        all_goals first
          | exact Out.flat' rfl
          | (rw [if_pos (by decide)]; exact Out.flat' rfl)
          | (exfalso; clear hI hS hJ hOx hOI hOS hT hP hD; simp_all; done)
      | true =>
        rw [hk] at hOI hOS
        refine stO Tryz.func4 [.tmp 2] 74 rfl rfl rfl ?_
        repeat' first | refine sS ?_ | ((with_reducible show aC ..); first | refine cF rfl rfl rfl rfl hOx ?_ | refine cF rfl rfl rfl rfl hOI ?_) | ((with_reducible show uC ..); first | refine uF rfl rfl rfl rfl hJ ?_ | refine uF rfl rfl rfl rfl hOI ?_ | refine uF rfl rfl rfl rfl hOS ?_) | ((with_reducible show aC ..); first | refine cR rfl rfl rfl rfl hD ?_ | refine cR rfl rfl rfl rfl hI ?_) | ((with_reducible show uC ..); refine uR rfl rfl rfl rfl hS ?_) | refine sO (fun K' hK' => ?_) | refine sY ?_ | (refine sI (fun hg => ?_) (fun hg K' hK' => ?_) <;> try exact sZ hg) | refine yA (fun K' hA' => ?_) | ((with_reducible show W _ _ (.region 5 _ _) _ _); refine sV 14 ?_) | (refine sE hK' ?_; clear hK') | (refine sE hA' ?_; clear hA') | (refine sD (fun hc => ?_) (fun hc => ?_) <;> try exact sZ hc) | refine sU ?_ ?_ | ((with_reducible first | refine En.ret ?_ | refine En.normal ?_); simp only [go_sem, Nat.reduceAdd, Nat.reduceMul]) | (simp only [go_sem, Nat.reduceAdd, Nat.reduceMul, Nat.reduceEqDiff, Nat.reduceLT, Nat.reduceLeDiff, Bool.not_true, Bool.not_false]; (all_goals fail_if_success show False)) | fail
        all_goals first
          | exact Out.flat' rfl
          | (rw [if_pos (by decide)]; exact Out.flat' rfl)
          | (exfalso; clear hI hS hJ hOx hOI hOS hT hP hD; simp_all; done)
  · refine stO Tryz.func4 [.tmp 2] 74 rfl rfl rfl ?_
    repeat' first | refine sS ?_ | refine sO (fun K' hK' => ?_) | (refine sE hK' ?_; clear hK') | (refine sD (fun hc => ?_) (fun hc => ?_) <;> try exact sZ hc) | ((with_reducible first | refine En.ret ?_ | refine En.normal ?_); simp only [go_sem]) | (simp only [go_sem]; (all_goals fail_if_success show False)) | fail
    all_goals exact Out.flat' rfl
end Go.Proofs.YtknciobaifdafaaGreatDoor.T
