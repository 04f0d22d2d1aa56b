/- The draws of the store, walked, part 7: steps that are ok. -/
import Derived.Test.YtknciobaifdafaaGreatDoorQEZ
import Derived.Test.YtknciobaifdafaaGreatDoorQG3
import Derived.Test.YtknciobaifdafaaGreatDoorQGE
import Derived.Test.YtknciobaifdafaaGreatDoorQV
import Derived.Test.YtknciobaifdafaaGreatDoorQGI
set_option linter.unusedVariables false
set_option maxRecDepth 100000
set_option maxHeartbeats 4000000
set_option linter.unusedSimpArgs false
namespace Go.Proofs.YtknciobaifdafaaGreatDoor.T
open Go Go.Pv Go.Proofs.YtknciobaifdafaaGreatDoor.EF
theorem Qv (b : List Int) (p : Nat) (hb : ∀ q, q ≤ 1000000 → RdOk b q) (hp : p + 40 ≤ 1000000) : OkS Tryz.prog 148 [.ptr 0 0] [(123, cRd b p)] (fun i => i = 0) (tJ (dY b p).1) [(123, cRd b (dY b p).2)] := by
  have hS : ∀ {mem : Mem}, mem 0 = .row 123 (cRd b p) → _ := fun {mem} hj => QU (mem := mem) (j := 0) b hj hb hp
  have hO := KY (fB b p).1
  unfold dY
  generalize fB b p = SV at hS hO ⊢
  cases hk : rV SV.1 with
  | true =>
    rw [hk] at hO
    rw [if_pos rfl]
    dsimp only
    refine stS Tryz.func148 [.cell 2 158] 11 rfl rfl rfl ?_
    repeat' first | refine sS ?_ | ((with_reducible show aC ..); first | refine cM rfl rfl rfl rfl (hS (by simp only [upd]; rfl)) ?_ | refine cF rfl rfl rfl rfl hO ?_) | refine sO (fun K' hK' => ?_) | (refine sE hK' ?_; clear hK') | (refine sD (fun hc => ?_) (fun hc => ?_) <;> try exact sZ hc) | ((with_reducible first | refine En.ret ?_ | refine En.normal ?_); simp only [go_sem, Nat.reduceAdd, Nat.reduceEqDiff, Nat.reduceLT, Nat.reduceLeDiff]) | (simp only [go_sem, Nat.reduceAdd, Nat.reduceMul, Nat.reduceEqDiff, Nat.reduceLT, Nat.reduceLeDiff, Bool.not_true]; (all_goals fail_if_success show False)) | fail
    all_goals exact kp [⟨0, 0, 123, (cRd b SV.2)⟩]
  | false =>
    rw [hk] at hO
    rw [if_neg (by simp)]
    dsimp only
    refine stS Tryz.func148 [.cell 2 158] 11 rfl rfl rfl ?_
    repeat' first | refine sS ?_ | ((with_reducible show aC ..); first | refine cM rfl rfl rfl rfl (hS (by simp only [upd]; rfl)) ?_ | refine cF rfl rfl rfl rfl hO ?_) | refine sO (fun K' hK' => ?_) | (refine sE hK' ?_; clear hK') | (refine sD (fun hc => ?_) (fun hc => ?_) <;> try exact sZ hc) | ((with_reducible first | refine En.ret ?_ | refine En.normal ?_); simp only [go_sem, Nat.reduceAdd, Nat.reduceEqDiff, Nat.reduceLT, Nat.reduceLeDiff]) | (simp only [go_sem, Nat.reduceAdd, Nat.reduceMul, Nat.reduceEqDiff, Nat.reduceLT, Nat.reduceLeDiff, Bool.not_false]; (all_goals fail_if_success show False)) | fail
    all_goals exact kp [⟨0, 0, 123, (cRd b SV.2)⟩]
theorem Qw {mem : Mem} {j : Nat} (b : List Int) {p : Nat} (hj : mem j = .row 123 (cRd b p)) (hb : ∀ q, q ≤ 1000000 → RdOk b q) (hp : p + 40 ≤ 1000000) : aK Tryz.prog 148 [.ptr j 0] mem fun y m => y = tJ (dY b p).1 ∧ m = upd mem j (.row 123 (cRd b (dY b p).2)) :=
  aK.frame1 (news := []) 0 (Qv b p hb hp) rfl hj rfl rfl (fun e he => by cases he) (fun i hi => absurd hi (Nat.not_lt_zero _)) (fun x hx => by rw [List.mem_singleton.1 hx]; exact jd (by decide)) (rd_h b p 1) (Nr _) (fun z hz => (rd_h b _ 1 z hz).1) (fun e he => by cases he)
end Go.Proofs.YtknciobaifdafaaGreatDoor.T
set_option linter.unusedVariables false
set_option maxRecDepth 100000
set_option maxHeartbeats 4000000
set_option linter.unusedSimpArgs false
namespace Go.Proofs.YtknciobaifdafaaGreatDoor.T
open Go Go.Pv Go.Proofs.YtknciobaifdafaaGreatDoor.EF
abbrev NH (K : Nat) (s : Stor) : PV := .agg [.ref K 0 s.disk.cells.length, .ref (K + 1) 0 s.disk.waits.length, vI s.disk.room, vI s.disk.left, vI s.turn, vI s.tries, vI s.next, .ref (K + 2) 0 s.pages.length]
theorem Qx (b : List Int) (p : Nat) (hb : ∀ q, q ≤ 1000000 → RdOk b q) (hp : p + 400 ≤ 1000000) : OkS Tryz.prog 106 [.ptr 0 0] [(123, cRd b p)] (fun i => i = 0) (NH 1 (fD b p).1) ((123, cRd b (fD b p).2) :: aJ (fD b p).1) := by
  have hr8 := Dt (hb p (by omega))
  have hN := Eo
  have hp6 := az (hb p (by omega)) (n := 6) (by omega)
  have hn : uO.getD (ae b p 6).toNat 0 = ((roundsV b p : Nat) : Int) := by
    unfold roundsV
    have : ∀ x ∈ uO, x = (x.toNat : Int) := by decide
    exact this _ (getD_mem (by show (ae b p 6).toNat < 6; omega))
  have hO1 : ∀ {mem : Mem} {k : Nat}, mem 0 = .row 123 (cRd b p) → mem k = .row 3 (uO.map vI) → _ := fun {mem k} hj hk => oneR (mem := mem) (j := 0) (k := k) b uO (p := p) hj hk (hb _ (by omega)) (by decide) (by decide)
  rw [show (uO.length : Int) = 6 from rfl, hn] at hO1
  have hS0 : ∃ N0, N0 = newS := ⟨_, rfl⟩
  obtain ⟨N0, hN0⟩ := hS0
  have hpl := AA
  unfold fD
  rw [← hN0] at hN hpl ⊢
  clear hN0
  generalize hG : kZ b (roundsV b p) N0 (p + 1) = G
  generalize roundsV b p = n0 at hr8 hO1 hG
  refine stS Tryz.func106 [.cell 2 35] 33 rfl rfl rfl ?_
  repeat' first | refine sS ?_ | ((with_reducible show aC ..); first | refine cM rfl rfl rfl rfl (hO1 (by simp only [upd]; rfl) (by simp only [upd]; rfl)) ?_ | refine cR rfl rfl rfl rfl hN ?_) | refine sO (fun K' hK' => ?_) | (refine sE hK' ?_; clear hK') | refine sU ?_ ?_ | exact sX | (simp only [go_sem, Nat.reduceAdd, Nat.reduceMul, Nat.reduceEqDiff, Nat.reduceLT, Nat.reduceLeDiff]; (all_goals fail_if_success show False)) | fail
  refine W.loop (fun x : Nat × Stor × Nat => match x.1 with
    | 0 => ⟨[.ptr 0 0, .any, .ptr 1 0, .ptr 2 0, vI 0, .any, .any, .any, .any, .any, .any, .any, .any, .any, .any, .any, .any, .any, .any, .any, .any, .any, .any, .any, .any, .any, .any, .any, .any, .any, .any, .any, .any], aZ [(0, 123, cRd b x.2.2), (1, 35, [.b (.slice none 0 0), .b (.slice none 0 0), vI 0, vI 0, vI 0, vI 0, vI 0, .b (.slice none 0 0)]), (2, 35, [.ref 3 0 x.2.1.disk.cells.length, .ref 4 0 x.2.1.disk.waits.length, vI x.2.1.disk.room, vI x.2.1.disk.left, vI x.2.1.turn, vI x.2.1.tries, vI x.2.1.next, .ref 5 0 x.2.1.pages.length]), (3, 9, x.2.1.disk.cells.map vS), (4, 110, x.2.1.disk.waits.flatMap cWt), (5, 9, x.2.1.pages.map vS)]⟩
    | n + 1 => ⟨[.ptr 0 0, .any, .ptr 1 0, .ptr 2 0, vI ((n + 1 : Nat) : Int), .any, .any, .any, .any, .any, .any, .any, .any, .any, .any, .any, .any, .any, .any, .any, .any, .any, .any, .any, .any, .any, .any, .any, .any, .any, .any, .any, .any], aZ [(0, 123, cRd b x.2.2), (1, 35, [.b (.slice none 0 0), .b (.slice none 0 0), vI 0, vI 0, vI 0, vI 0, vI 0, .b (.slice none 0 0)]), (2, 35, [.val x.2.1.disk.cells.length (x.2.1.disk.cells.map vS), .val x.2.1.disk.waits.length (x.2.1.disk.waits.flatMap cWt), vI x.2.1.disk.room, vI x.2.1.disk.left, vI x.2.1.turn, vI x.2.1.tries, vI x.2.1.next, .val x.2.1.pages.length (x.2.1.pages.map vS)])]⟩)
    (fun x => (∃ k, k + x.1 ≤ 8 ∧ uP k x.2.1) ∧ x.2.2 + 40 * x.1 ≤ p + 330 ∧ kZ b x.1 x.2.1 x.2.2 = G) (fun x => x.1) (n0, N0, p + 1) ?wk0 ⟨⟨0, by dsimp only; omega, hpl⟩, by dsimp only; omega, hG⟩ (fun x hx => ?_)
  case wk0 =>
    rcases n0 with _ | n0
    · dsimp only
      exact kp [⟨0, 0, 123, (cRd b (p + 1))⟩, ⟨16384, 1, 35, [.b (.slice none 0 0), .b (.slice none 0 0), vI 0, vI 0, vI 0, vI 0, vI 0, .b (.slice none 0 0)]⟩, ⟨32784, 2, 35, [.ref 3 0 N0.disk.cells.length, .ref 4 0 N0.disk.waits.length, vI N0.disk.room, vI N0.disk.left, vI N0.turn, vI N0.tries, vI N0.next, .ref 5 0 N0.pages.length]⟩, ⟨32768, 3, 9, (N0.disk.cells.map vS)⟩, ⟨32769, 4, 110, (N0.disk.waits.flatMap cWt)⟩, ⟨32770, 5, 9, (N0.pages.map vS)⟩]
    · dsimp only
      exact kp [⟨0, 0, 123, (cRd b (p + 1))⟩, ⟨16384, 1, 35, [.b (.slice none 0 0), .b (.slice none 0 0), vI 0, vI 0, vI 0, vI 0, vI 0, .b (.slice none 0 0)]⟩, ⟨32784, 2, 35, [.val N0.disk.cells.length (N0.disk.cells.map vS), .val N0.disk.waits.length (N0.disk.waits.flatMap cWt), vI N0.disk.room, vI N0.disk.left, vI N0.turn, vI N0.tries, vI N0.next, .val N0.pages.length (N0.pages.map vS)]⟩]
  obtain ⟨n, s, q⟩ := x
  dsimp only at hx ⊢
  obtain ⟨⟨k, hk8, hPk⟩, hq, hgo⟩ := hx
  have hE := hPk.2
  rcases n with _ | n
  · obtain rfl : G = (s, q) := hgo.symm
    dsimp only
    have hg := hE.good
    have hPk : ∀ {mem : Mem}, mem 0 = .row 123 (cRd b q) → _ := fun {mem} hj => gB (mem := mem) (j := 0) b 16 hj (hb q (by omega))
    have hOT : ∀ {m2 : Mem} {k : Nat}, m2 0 = .row 123 (cRd b (q + 1)) → m2 k = .row 3 (xI.map vI) → _ := fun {m2 k} hj hk => oneR (mem := m2) (j := 0) (k := k) b xI hj hk (hb (q + 1) (by omega)) (by decide) (by decide)
    have hOY : ∀ {mem : Mem} {k : Nat}, mem 0 = .row 123 (cRd b (q + 1)) → mem k = .row 3 (Dq.map vI) → _ := fun {mem k} hj hk => oneR (mem := mem) (j := 0) (k := k) b Dq hj hk (hb (q + 1) (by omega)) (by decide) (by decide)
    have hTi := GY (hb (q + 1) (by omega))
    rw [show (xI.length : Int) = 4 from rfl, show xI.getD (ae b (q + 1) 4).toNat 0 = wP b (q + 1) from rfl] at hOT
    rw [show (Dq.length : Int) = 2 from rfl, show Dq.getD (ae b (q + 1) 2).toNat 0 = tryV b (q + 1) from rfl] at hOY
    unfold GX
    generalize ae b q 16 = c at hPk ⊢
    generalize wP b (q + 1) = T at hOT hTi ⊢
    generalize tryV b (q + 1) = y at hOY ⊢
    by_cases c0 : c = 0
    · rw [if_pos c0]
      have hT := GV s T hg hE.room hE.left (by omega)
      generalize yl s T = S at hT ⊢
      repeat' first | refine sS ?_ | ((with_reducible show aC ..); refine cM rfl rfl rfl rfl (hPk (by simp only [upd]; rfl)) ?_) | refine sO (fun K' hK' => ?_) | (refine sE hK' ?_; clear hK') | (refine sD (fun hc => ?_) (fun hc => ?_) <;> try exact sZ hc) | (simp only [go_sem]; (all_goals fail_if_success show False)) | fail
      refine Hu (t := ⟨[.ptr 0 0, .any, .ptr 1 0, .ptr 2 0, .any, .any, .any, .any, .any, .any, .any, .any, .any, .any, .any, .any, .any, .any, .any, .any, .any, .any, .any, .any, .any, .any, .any, .any, .any, .any, .any, .any, .any], aZ [(0, 123, cRd b (q + 1)), (1, 35, [.b (.slice none 0 0), .b (.slice none 0 0), vI 0, vI 0, vI 0, vI 0, vI 0, .b (.slice none 0 0)]), (2, 35, [.val s.disk.cells.length (s.disk.cells.map vS), .val s.disk.waits.length (s.disk.waits.flatMap cWt), vI s.disk.room, vI s.disk.left, vI s.turn, vI s.tries, vI s.next, .val s.pages.length (s.pages.map vS)])]⟩) ?wk8 ?_
      case wk8 => exact kp [⟨0, 0, 123, (cRd b (q + 1))⟩, ⟨1, 1, 35, [.b (.slice none 0 0), .b (.slice none 0 0), vI 0, vI 0, vI 0, vI 0, vI 0, .b (.slice none 0 0)]⟩, ⟨2, 2, 35, [.val s.disk.cells.length (s.disk.cells.map vS), .val s.disk.waits.length (s.disk.waits.flatMap cWt), vI s.disk.room, vI s.disk.left, vI s.turn, vI s.tries, vI s.next, .val s.pages.length (s.pages.map vS)]⟩]
      repeat' first | ((with_reducible show dw _ _ _ _ _ _ _ _ _ _ _ _); refine sT 2 rfl rfl rfl rfl (List.mem_cons_self ..) (fun m2 hm2 hm3 => hOT hm2 hm3) ?_) | ((with_reducible show W _ _ (.region 8 _ _) _ _); refine dM 5 0 [3] ?_) | refine sS ?_ | ((with_reducible show uC ..); refine uR rfl rfl rfl rfl hT ?_) | refine sO (fun K' hK' => ?_) | refine yA (fun K' hA' => ?_) | (refine sE hK' ?_; clear hK') | (refine sE hA' ?_; clear hA') | refine sU ?_ ?_ | exact sX | ((with_reducible first | refine En.ret ?_ | refine En.normal ?_); simp only [go_sem, Nat.reduceAdd, Nat.reduceMul, Nat.reduceEqDiff, Nat.reduceLT, Nat.reduceLeDiff]) | (simp only [go_sem, Nat.reduceAdd, Nat.reduceMul, Nat.reduceEqDiff, Nat.reduceLT, Nat.reduceLeDiff]; (all_goals fail_if_success show False)) | fail
      all_goals
        simp only [aJ]
        exact kp [⟨0, 0, 123, (cRd b (q + 2))⟩, ⟨147520, 1, 9, (S.disk.cells.map vS)⟩, ⟨147521, 2, 110, (S.disk.waits.flatMap cWt)⟩, ⟨147522, 3, 9, (S.pages.map vS)⟩]
    · rw [if_neg c0]
      by_cases c1 : c = 1
      · rw [if_pos c1]
        repeat' first | refine sS ?_ | ((with_reducible show aC ..); first | refine cM rfl rfl rfl rfl (hPk (by simp only [upd]; rfl)) ?_ | refine cM rfl rfl rfl rfl (hOY (by simp only [upd]; rfl) (by simp only [upd]; rfl)) ?_) | refine sO (fun K' hK' => ?_) | (refine sE hK' ?_; clear hK') | (refine sD (fun hc => ?_) (fun hc => ?_) <;> try exact sZ hc) | refine sU ?_ ?_ | exact sX | ((with_reducible first | refine En.ret ?_ | refine En.normal ?_); simp only [go_sem, Nat.reduceAdd, Nat.reduceEqDiff, Nat.reduceLT, Nat.reduceLeDiff]) | (simp only [go_sem, Nat.reduceAdd, Nat.reduceMul, Nat.reduceEqDiff, Nat.reduceLT, Nat.reduceLeDiff]; (all_goals fail_if_success show False)) | fail
        all_goals
          simp only [aJ]
          exact kp [⟨0, 0, 123, (cRd b (q + 2))⟩, ⟨3, 1, 9, (s.disk.cells.map vS)⟩, ⟨4, 2, 110, (s.disk.waits.flatMap cWt)⟩, ⟨5, 3, 9, (s.pages.map vS)⟩]
      · rw [if_neg c1]
        repeat' first | refine sS ?_ | ((with_reducible show aC ..); refine cM rfl rfl rfl rfl (hPk (by simp only [upd]; rfl)) ?_) | refine sO (fun K' hK' => ?_) | (refine sE hK' ?_; clear hK') | (refine sD (fun hc => ?_) (fun hc => ?_) <;> try exact sZ hc) | ((with_reducible first | refine En.ret ?_ | refine En.normal ?_); simp only [go_sem, Nat.reduceAdd, Nat.reduceEqDiff, Nat.reduceLT, Nat.reduceLeDiff]) | (simp only [go_sem, Nat.reduceAdd, Nat.reduceEqDiff, Nat.reduceLT, Nat.reduceLeDiff]; (all_goals fail_if_success show False)) | fail
        all_goals
          simp only [aJ]
          exact kp [⟨0, 0, 123, (cRd b (q + 1))⟩, ⟨3, 1, 9, (s.disk.cells.map vS)⟩, ⟨4, 2, 110, (s.disk.waits.flatMap cWt)⟩, ⟨5, 3, 9, (s.pages.map vS)⟩]
  · obtain ⟨hs1, hs2⟩ := hPk.step (b := b) (p := q) (by omega) hb (by omega)
    obtain ⟨st1, st2, st3⟩ := xH (b := b) (p := q) hb (by omega)
    have sB := Nz (b := b) (p := q) hb (by omega)
    have hS : ∀ {m2 : Mem}, m2 0 = .row 123 (cRd b q) → _ := fun {m2} hj => Qw (mem := m2) (j := 0) b hj hb (by omega)
    have hgo' : kZ b n (stepS s (dY b q).1) (dY b q).2 = G := hgo
    have w1 : IntKind.i64.wrap (((n + 1 : Nat) : Int) - 1) = (n : Int) := by rw [af (by omega) (by omega)]; omega
    rcases n with _ | n
    · have hL := Ld s (dY b q).1 hE.good (by have := hE.room; omega) (by have := hE.left; omega) st1.room st1.left sB hs1.2.good hs2
      generalize dY b q = E at hS hs1 hgo' hL st3
      generalize stepS s E.1 = s' at hs1 hgo' hL
      repeat' first | ((with_reducible show dw _ _ _ _ _ _ _ _ _ _ _ _); refine sC rfl rfl rfl rfl (fun m2 hm2 => hS hm2) ?_) | ((with_reducible show W _ _ (.region 5 _ _) _ _); refine dM 4 0 [2] ?_) | refine sS ?_ | ((with_reducible show uC ..); refine uR rfl rfl rfl rfl hL ?_) | refine sO (fun K' hK' => ?_) | refine yA (fun K' hA' => ?_) | (refine sE hK' ?_; clear hK') | (refine sE hA' ?_; clear hA') | (refine sD (fun hc => ?_) (fun hc => ?_) <;> try exact sZ hc) | (simp only [go_sem, Nat.reduceAdd, Nat.reduceMul, Nat.reduceEqDiff, Nat.reduceLT, Nat.reduceLeDiff, w1]; (all_goals fail_if_success show False)) | fail
      refine Rnd.normal (0, s', E.2) ⟨⟨k + 1, by dsimp only; omega, hs1⟩, by dsimp only; omega, hgo'⟩ (by dsimp only; omega) ?_
      dsimp only
      try simp only [aH]
      exact kp [⟨0, 0, 123, (cRd b E.2)⟩, ⟨1, 1, 35, [.b (.slice none 0 0), .b (.slice none 0 0), vI 0, vI 0, vI 0, vI 0, vI 0, .b (.slice none 0 0)]⟩, ⟨2, 2, 35, [.ref 3 0 s'.disk.cells.length, .ref 4 0 s'.disk.waits.length, vI s'.disk.room, vI s'.disk.left, vI s'.turn, vI s'.tries, vI s'.next, .ref 5 0 s'.pages.length]⟩, ⟨98352, 3, 9, (s'.disk.cells.map vS)⟩, ⟨98353, 4, 110, (s'.disk.waits.flatMap cWt)⟩, ⟨98354, 5, 9, (s'.pages.map vS)⟩]
    · have hL := IM s (dY b q).1 hE.good (by have := hE.room; omega) (by have := hE.left; omega) st1.room st1.left sB
      generalize dY b q = E at hS hs1 hgo' hL st3
      generalize stepS s E.1 = s' at hs1 hgo' hL
      repeat' first | ((with_reducible show dw _ _ _ _ _ _ _ _ _ _ _ _); refine sC rfl rfl rfl rfl (fun m2 hm2 => hS hm2) ?_) | ((with_reducible show W _ _ (.region 5 _ _) _ _); refine dM 4 0 [2] ?_) | refine sS ?_ | ((with_reducible show uC ..); refine uR rfl rfl rfl rfl hL ?_) | refine sO (fun K' hK' => ?_) | refine yA (fun K' hA' => ?_) | (refine sE hK' ?_; clear hK') | (refine sE hA' ?_; clear hA') | (refine sD (fun hc => ?_) (fun hc => ?_) <;> try exact sZ hc) | (simp only [go_sem, Nat.reduceAdd, Nat.reduceMul, Nat.reduceEqDiff, Nat.reduceLT, Nat.reduceLeDiff, w1]; (all_goals fail_if_success show False)) | fail
      refine Rnd.normal (n + 1, s', E.2) ⟨⟨k + 1, by dsimp only; omega, hs1⟩, by dsimp only; omega, hgo'⟩ (by dsimp only; omega) ?_
      dsimp only
      exact kp [⟨0, 0, 123, (cRd b E.2)⟩, ⟨1, 1, 35, [.b (.slice none 0 0), .b (.slice none 0 0), vI 0, vI 0, vI 0, vI 0, vI 0, .b (.slice none 0 0)]⟩, ⟨2, 2, 35, [.val s'.disk.cells.length (s'.disk.cells.map vS), .val s'.disk.waits.length (s'.disk.waits.flatMap cWt), vI s'.disk.room, vI s'.disk.left, vI s'.turn, vI s'.tries, vI s'.next, .val s'.pages.length (s'.pages.map vS)]⟩]
end Go.Proofs.YtknciobaifdafaaGreatDoor.T
set_option linter.unusedVariables false
set_option maxRecDepth 100000
set_option maxHeartbeats 4000000
set_option linter.unusedSimpArgs false
namespace Go.Proofs.YtknciobaifdafaaGreatDoor.T
open Go Go.Pv Go.Proofs.YtknciobaifdafaaGreatDoor.EF
theorem NI {mem : Mem} {j : Nat} (K : Nat) (b : List Int) {p : Nat} (hj : mem j = .row 123 (cRd b p)) (hK : mem K = .free) (hK1 : mem (K + 1) = .free) (hK2 : mem (K + 2) = .free) (hb : ∀ q, q ≤ 1000000 → RdOk b q) (hp : p + 400 ≤ 1000000) : aK Tryz.prog 106 [.ptr j 0] mem fun y m => y = NH K (fD b p).1 ∧ m = upd (aH K (aJ (fD b p).1) mem) j (.row 123 (cRd b (fD b p).2)) :=
  aK.frame1 (news := aJ (fD b p).1) K (Qx b p hb hp) rfl hj rfl rfl (fun e he => by
      simp only [List.mem_cons, List.not_mem_nil, or_false] at he
      rcases he with rfl | rfl | rfl
      · exact mQ _
      · exact xG _
      · exact mQ _) (fun i hi => by
      simp only [List.length_cons, List.length_nil] at hi
      have : i = 0 ∨ i = 1 ∨ i = 2 := by omega
      rcases this with rfl | rfl | rfl
      · exact hK
      · exact hK1
      · exact hK2) (fun x hx => by rw [List.mem_singleton.1 hx]; exact jd (by decide)) (rd_h b p 1) (show GOk Tryz.prog _ from fun z hz => by
      simp only [List.mem_cons, List.not_mem_nil, or_false] at hz
      rcases hz with rfl | rfl | rfl | rfl | rfl | rfl | rfl | rfl <;> first | exact HOk.b _ | exact .inl ⟨_, _, _, rfl⟩) (fun z hz => (rd_h b _ 1 z hz).1) (fun e he z hz => by
      simp only [List.mem_cons, List.not_mem_nil, or_false] at he
      rcases he with rfl | rfl | rfl
      · exact (rQ _ 1 z hz).1
      · exact (IJ _ 1 z hz).1
      · exact (rQ _ 1 z hz).1)
abbrev NJ (K : Nat) (s : Stor) : PV := .agg [.ref K 0 s.disk.cells.length, .val s.disk.waits.length (s.disk.waits.flatMap cWt), vI s.disk.room, vI s.disk.left, vI s.turn, vI s.tries, vI s.next, .val s.pages.length (s.pages.map vS)]
def kT (b : List Int) (p : Nat) : Prop := ae b (fD b p).2 24 = 4 ∧ ae b (fO b ((fD b p).2 + 1)).2 24 = 0
theorem NK (b : List Int) (p : Nat) (hb : ∀ q, q ≤ 1000000 → RdOk b q) (hp : p + 1000 ≤ 1000000) (hns : ¬ kT b p) : OkS Tryz.prog 65 [.ptr 0 0] [(123, cRd b p)] (fun i => i = 0) (NJ 1 (aX b p).1) [(123, cRd b (aX b p).2), (9, (aX b p).1.disk.cells.map vS)] := by
  obtain ⟨g1, g2⟩ := oO (b := b) (p := p) hb (by omega)
  have hD : ∀ {mem : Mem}, mem 0 = .row 123 (cRd b p) → mem 200 = .free → mem 201 = .free → mem 202 = .free → _ := fun {mem} hj h1 h2 h3 => NI (mem := mem) (j := 0) 200 b hj h1 h2 h3 hb (by omega)
  unfold kT at hns
  unfold aX
  have gq := g1.q
  have gn := g1.nx
  obtain ⟨t0, gg⟩ := g1.good
  have glen := gg.len
  generalize fD b p = S at hD g1 g2 gq gn glen hns ⊢
  obtain ⟨s, q⟩ := S
  dsimp only at hD g1 g2 gq gn glen hns ⊢
  have gp := gq.pages
  have hP : ∀ {mem : Mem}, mem 0 = .row 123 (cRd b q) → _ := fun {mem} hj => gB (mem := mem) (j := 0) b 24 hj (hb q (by omega))
  unfold xJ
  dsimp only
  generalize ae b q 24 = c at hP hns ⊢
  by_cases c0 : c = 0
  · rw [if_pos c0]
    have hk := az (hb (q + 1) (by omega)) (n := 20) (by omega)
    have hQ : ∀ {m2 : Mem}, m2 0 = .row 123 (cRd b (q + 1)) → _ := fun {m2} hj => gB (mem := m2) (j := 0) b 20 hj (hb (q + 1) (by omega))
    obtain ⟨k, hkk⟩ : ∃ k : Nat, ae b (q + 1) 20 = k := ⟨(ae b (q + 1) 20).toNat, by omega⟩
    rw [hkk] at hk hQ ⊢
    rw [Int.toNat_natCast]
    have hl : (s.pages.set k ⟨#[111, 116, 104, 101, 114]⟩).length = s.pages.length := List.length_set
    refine stS Tryz.func65 [.cell 2 35] 49 rfl rfl rfl ?_
    repeat' first | ((with_reducible show dw _ _ _ _ _ _ _ _ _ _ _ _); refine sC rfl rfl rfl rfl (fun m2 hm2 => hQ hm2) ?_) | ((with_reducible show W _ _ (.region 4 _ _) _ _); refine dM 5 0 [3] ?_) | refine sS ?_ | ((with_reducible show aC ..); first | refine cM rfl rfl rfl rfl (hD (by simp only [upd]; rfl) (by simp only [upd]; rfl) (by simp only [upd]; rfl) (by simp only [upd]; rfl)) ?_ | refine cM rfl rfl rfl rfl (hP (by simp only [upd]; rfl)) ?_) | refine sO (fun K' hK' => ?_) | refine yA (fun K' hA' => ?_) | (refine sE hK' ?_; clear hK') | (refine sE hA' ?_; clear hA') | (refine sD (fun hc => ?_) (fun hc => ?_) <;> try exact sZ hc) | refine sU ?_ ?_ | exact sX | ((with_reducible first | refine En.ret ?_ | refine En.normal ?_); simp only [go_sem, Nat.reduceAdd, Nat.reduceEqDiff, Nat.reduceLT, Nat.reduceLeDiff]) | (simp only [go_sem, Nat.reduceAdd, Nat.reduceMul, Nat.reduceEqDiff, Nat.reduceLT, Nat.reduceLeDiff]; (all_goals fail_if_success show False)) | fail
    rw [show (s.pages.map vS).set k (.b (.string ⟨#[111, 116, 104, 101, 114]⟩)) = (s.pages.set k ⟨#[111, 116, 104, 101, 114]⟩).map vS from dm]
    generalize s.pages.set k ⟨#[111, 116, 104, 101, 114]⟩ = C at hl ⊢
    exact Weak.intro [⟨0, 0, 123, (cRd b (q + 2))⟩, ⟨200, 1, 9, (s.disk.cells.map vS)⟩] (by simp) (by simp) (by intro e he; simp only [List.mem_cons, List.not_mem_nil, or_false] at he; rcases he with rfl | rfl <;> refine ⟨_, by simp only [upd, if_true, if_false, Nat.reduceEqDiff]; rfl, ?_⟩ <;> first | (simp [All2, vwC, kap, ax, jl]; done) | (refine bC ?_; first | exact bn | exact iq | exact bJ | exact flat_nil | (repeat' with_reducible first | exact flat_nil | exact dE | exact bf | exact jm | exact bD | refine Flat.cons ?_ ?_); done)) rfl (by simp [All2, vw, vwA, vwC, kap, upd, ax, vS, dC, hl]) (by intro i hi; rcases hi with rfl | rfl <;> rfl)
  · rw [if_neg c0]
    by_cases c1 : c = 1
    · rw [if_pos c1]
      have w1 : IntKind.i64.wrap (s.next + 1) = s.next + 1 := af (by omega) (by omega)
      refine stS Tryz.func65 [.cell 2 35] 49 rfl rfl rfl ?_
      repeat' first | refine sS ?_ | ((with_reducible show aC ..); first | refine cM rfl rfl rfl rfl (hD (by simp only [upd]; rfl) (by simp only [upd]; rfl) (by simp only [upd]; rfl) (by simp only [upd]; rfl)) ?_ | refine cM rfl rfl rfl rfl (hP (by simp only [upd]; rfl)) ?_) | refine sO (fun K' hK' => ?_) | (refine sE hK' ?_; clear hK') | (refine sD (fun hc => ?_) (fun hc => ?_) <;> try exact sZ hc) | ((with_reducible first | refine En.ret ?_ | refine En.normal ?_); simp only [go_sem, Nat.reduceAdd, Nat.reduceEqDiff, Nat.reduceLT, Nat.reduceLeDiff]) | (simp only [go_sem, Nat.reduceAdd, Nat.reduceMul, Nat.reduceEqDiff, Nat.reduceLT, Nat.reduceLeDiff, w1]; (all_goals fail_if_success show False)) | fail
      all_goals exact kp [⟨0, 0, 123, (cRd b (q + 1))⟩, ⟨200, 1, 9, (s.disk.cells.map vS)⟩]
    · rw [if_neg c1]
      by_cases c2 : c = 2
      · rw [if_pos c2]
        have w1 : IntKind.i64.wrap (s.turn + 1) = s.turn + 1 := af (by omega) (by omega)
        refine stS Tryz.func65 [.cell 2 35] 49 rfl rfl rfl ?_
        repeat' first | refine sS ?_ | ((with_reducible show aC ..); first | refine cM rfl rfl rfl rfl (hD (by simp only [upd]; rfl) (by simp only [upd]; rfl) (by simp only [upd]; rfl) (by simp only [upd]; rfl)) ?_ | refine cM rfl rfl rfl rfl (hP (by simp only [upd]; rfl)) ?_) | refine sO (fun K' hK' => ?_) | (refine sE hK' ?_; clear hK') | (refine sD (fun hc => ?_) (fun hc => ?_) <;> try exact sZ hc) | ((with_reducible first | refine En.ret ?_ | refine En.normal ?_); simp only [go_sem, Nat.reduceAdd, Nat.reduceEqDiff, Nat.reduceLT, Nat.reduceLeDiff]) | (simp only [go_sem, Nat.reduceAdd, Nat.reduceMul, Nat.reduceEqDiff, Nat.reduceLT, Nat.reduceLeDiff, w1]; (all_goals fail_if_success show False)) | fail
        all_goals exact kp [⟨0, 0, 123, (cRd b (q + 1))⟩, ⟨200, 1, 9, (s.disk.cells.map vS)⟩]
      · rw [if_neg c2]
        by_cases c3 : c = 3
        · rw [if_pos c3]
          have hO : ∀ {mem : Mem} {k : Nat}, mem 0 = .row 123 (cRd b (q + 1)) → mem k = .row 3 (oddL.map vI) → _ := fun {mem k} hj hk => oneR (mem := mem) (j := 0) (k := k) b oddL hj hk (hb (q + 1) (by omega)) (by decide) (by decide)
          rw [show (oddL.length : Int) = 2 from rfl] at hO
          generalize oddL.getD (ae b (q + 1) 2).toNat 0 = x at hO ⊢
          refine stS Tryz.func65 [.cell 2 35] 49 rfl rfl rfl ?_
          repeat' first | refine sS ?_ | ((with_reducible show aC ..); first | refine cM rfl rfl rfl rfl (hD (by simp only [upd]; rfl) (by simp only [upd]; rfl) (by simp only [upd]; rfl) (by simp only [upd]; rfl)) ?_ | refine cM rfl rfl rfl rfl (hP (by simp only [upd]; rfl)) ?_ | refine cM rfl rfl rfl rfl (hO (by simp only [upd]; rfl) (by simp only [upd]; rfl)) ?_) | refine sO (fun K' hK' => ?_) | (refine sE hK' ?_; clear hK') | (refine sD (fun hc => ?_) (fun hc => ?_) <;> try exact sZ hc) | refine sU ?_ ?_ | exact sX | ((with_reducible first | refine En.ret ?_ | refine En.normal ?_); simp only [go_sem, Nat.reduceAdd, Nat.reduceEqDiff, Nat.reduceLT, Nat.reduceLeDiff]) | (simp only [go_sem, Nat.reduceAdd, Nat.reduceMul, Nat.reduceEqDiff, Nat.reduceLT, Nat.reduceLeDiff]; (all_goals fail_if_success show False)) | fail
          all_goals exact kp [⟨0, 0, 123, (cRd b (q + 2))⟩, ⟨200, 1, 9, (s.disk.cells.map vS)⟩]
        · rw [if_neg c3]
          by_cases c4 : c = 4
          · rw [if_pos c4]
            have hns2 : ¬ ae b (fO b (q + 1)).2 24 = 0 := fun h => hns ⟨c4, h⟩
            have hA : ∀ {mem : Mem}, mem 0 = .row 123 (cRd b (q + 1)) → mem 210 = .free → _ := fun {mem} hj h1 => Qu (mem := mem) (j := 0) 210 b hj h1 hb (by omega) hns2
            generalize cO b (q + 1) = D at hA ⊢
            refine stS Tryz.func65 [.cell 2 35] 49 rfl rfl rfl ?_
            repeat' first | refine sS ?_ | ((with_reducible show aC ..); first | refine cM rfl rfl rfl rfl (hD (by simp only [upd]; rfl) (by simp only [upd]; rfl) (by simp only [upd]; rfl) (by simp only [upd]; rfl)) ?_ | refine cM rfl rfl rfl rfl (hP (by simp only [upd]; rfl)) ?_ | refine cM rfl rfl rfl rfl (hA (by simp only [upd]; rfl) (by simp only [upd]; rfl)) ?_) | refine sO (fun K' hK' => ?_) | (refine sE hK' ?_; clear hK') | (refine sD (fun hc => ?_) (fun hc => ?_) <;> try exact sZ hc) | ((with_reducible first | refine En.ret ?_ | refine En.normal ?_); simp only [go_sem, Nat.reduceAdd, Nat.reduceEqDiff, Nat.reduceLT, Nat.reduceLeDiff]) | (simp only [go_sem, Nat.reduceAdd, Nat.reduceMul, Nat.reduceEqDiff, Nat.reduceLT, Nat.reduceLeDiff]; (all_goals fail_if_success show False)) | fail
            all_goals exact kp [⟨0, 0, 123, (cRd b D.2)⟩, ⟨210, 1, 9, (D.1.cells.map vS)⟩]
          · rw [if_neg c4]
            by_cases c5 : c = 5
            · rw [if_pos c5]
              have hk := az (hb (q + 1) (by omega)) (n := 42) (by omega)
              have hQ : ∀ {m2 : Mem}, m2 0 = .row 123 (cRd b (q + 1)) → _ := fun {m2} hj => gB (mem := m2) (j := 0) b 42 hj (hb (q + 1) (by omega))
              have hT : ∀ {m2 : Mem}, m2 0 = .row 123 (cRd b (q + 2)) → _ := fun {m2} hj => Jy (mem := m2) (j := 0) b hj (hb (q + 2) (by omega))
              obtain ⟨k, hkk⟩ : ∃ k : Nat, ae b (q + 1) 42 = k := ⟨(ae b (q + 1) 42).toNat, by omega⟩
              rw [hkk] at hk hQ ⊢
              rw [Int.toNat_natCast]
              generalize jJ b (q + 2) = x at hT ⊢
              have hl : (s.disk.cells.set k x).length = s.disk.cells.length := List.length_set
              refine stS Tryz.func65 [.cell 2 35] 49 rfl rfl rfl ?_
              repeat' first | ((with_reducible show dw _ _ _ _ _ _ _ _ _ _ _ _); first | refine sC rfl rfl rfl rfl (fun m2 hm2 => hT hm2) ?_ | refine sC rfl rfl rfl rfl (fun m2 hm2 => hQ hm2) ?_) | ((with_reducible show W _ _ (.region 14 _ _) _ _); refine dM 8 0 [4, 6] ?_) | refine sS ?_ | ((with_reducible show aC ..); first | refine cM rfl rfl rfl rfl (hD (by simp only [upd]; rfl) (by simp only [upd]; rfl) (by simp only [upd]; rfl) (by simp only [upd]; rfl)) ?_ | refine cM rfl rfl rfl rfl (hP (by simp only [upd]; rfl)) ?_) | refine sO (fun K' hK' => ?_) | refine yA (fun K' hA' => ?_) | (refine sE hK' ?_; clear hK') | (refine sE hA' ?_; clear hA') | (refine sD (fun hc => ?_) (fun hc => ?_) <;> try exact sZ hc) | refine sU ?_ ?_ | exact sX | ((with_reducible first | refine En.ret ?_ | refine En.normal ?_); simp only [go_sem, Nat.reduceAdd, Nat.reduceEqDiff, Nat.reduceLT, Nat.reduceLeDiff]) | (simp only [go_sem, Nat.reduceAdd, Nat.reduceMul, Nat.reduceEqDiff, Nat.reduceLT, Nat.reduceLeDiff]; (all_goals fail_if_success show False)) | fail
              rw [show (s.disk.cells.map vS).set k (.b (.string x)) = (s.disk.cells.set k x).map vS from dm]
              generalize s.disk.cells.set k x = C at hl ⊢
              exact Weak.intro [⟨0, 0, 123, (cRd b (q + 3))⟩, ⟨200, 1, 9, (C.map vS)⟩] (by simp) (by simp) (by intro e he; simp only [List.mem_cons, List.not_mem_nil, or_false] at he; rcases he with rfl | rfl <;> refine ⟨_, by simp only [upd, if_true, if_false, Nat.reduceEqDiff]; rfl, ?_⟩ <;> first | (simp [All2, vwC, kap, ax, jl]; done) | (refine bC ?_; first | exact bn | exact iq | exact bJ | exact flat_nil | (repeat' with_reducible first | exact flat_nil | exact dE | exact bf | exact jm | exact bD | refine Flat.cons ?_ ?_); done)) rfl (by simp [All2, vw, vwA, vwC, kap, upd, ax, vS, dC, hl]) (by intro i hi; rcases hi with rfl | rfl <;> rfl)
            · rw [if_neg c5]
              refine stS Tryz.func65 [.cell 2 35] 49 rfl rfl rfl ?_
              repeat' first | refine sS ?_ | ((with_reducible show aC ..); first | refine cM rfl rfl rfl rfl (hD (by simp only [upd]; rfl) (by simp only [upd]; rfl) (by simp only [upd]; rfl) (by simp only [upd]; rfl)) ?_ | refine cM rfl rfl rfl rfl (hP (by simp only [upd]; rfl)) ?_) | refine sO (fun K' hK' => ?_) | (refine sE hK' ?_; clear hK') | (refine sD (fun hc => ?_) (fun hc => ?_) <;> try exact sZ hc) | ((with_reducible first | refine En.ret ?_ | refine En.normal ?_); simp only [go_sem, Nat.reduceAdd, Nat.reduceEqDiff, Nat.reduceLT, Nat.reduceLeDiff]) | (simp only [go_sem, Nat.reduceAdd, Nat.reduceMul, Nat.reduceEqDiff, Nat.reduceLT, Nat.reduceLeDiff]; (all_goals fail_if_success show False)) | fail
              all_goals exact kp [⟨0, 0, 123, (cRd b (q + 1))⟩, ⟨200, 1, 9, (s.disk.cells.map vS)⟩]
theorem NL (b : List Int) (p : Nat) (hb : ∀ q, q ≤ 1000000 → RdOk b q) (hp : p + 1000 ≤ 1000000) (hns : kT b p) : OkS Tryz.prog 65 [.ptr 0 0] [(123, cRd b p)] (fun i => i = 0) (aN (aX b p).1) [(123, cRd b (aX b p).2)] := by
  obtain ⟨g1, g2⟩ := oO (b := b) (p := p) hb (by omega)
  have hD : ∀ {mem : Mem}, mem 0 = .row 123 (cRd b p) → mem 200 = .free → mem 201 = .free → mem 202 = .free → _ := fun {mem} hj h1 h2 h3 => NI (mem := mem) (j := 0) 200 b hj h1 h2 h3 hb (by omega)
  unfold kT at hns
  unfold aX
  generalize fD b p = S at hD g1 g2 hns ⊢
  obtain ⟨s, q⟩ := S
  dsimp only at hD g1 g2 hns ⊢
  obtain ⟨c4, hns2⟩ := hns
  have hP : ∀ {mem : Mem}, mem 0 = .row 123 (cRd b q) → _ := fun {mem} hj => gB (mem := mem) (j := 0) b 24 hj (hb q (by omega))
  unfold xJ
  dsimp only
  rw [c4] at hP ⊢
  rw [if_neg (by decide), if_neg (by decide), if_neg (by decide), if_neg (by decide), if_pos rfl]
  have hA : ∀ {mem : Mem}, mem 0 = .row 123 (cRd b (q + 1)) → _ := fun {mem} hj => O7 (mem := mem) (j := 0) b hj hb (by omega) hns2
  generalize cO b (q + 1) = D at hA ⊢
  refine stS Tryz.func65 [.cell 2 35] 49 rfl rfl rfl ?_
  repeat' first | refine sS ?_ | ((with_reducible show aC ..); first | refine cM rfl rfl rfl rfl (hD (by simp only [upd]; rfl) (by simp only [upd]; rfl) (by simp only [upd]; rfl) (by simp only [upd]; rfl)) ?_ | refine cM rfl rfl rfl rfl (hP (by simp only [upd]; rfl)) ?_ | refine cM rfl rfl rfl rfl (hA (by simp only [upd]; rfl)) ?_) | refine sO (fun K' hK' => ?_) | (refine sE hK' ?_; clear hK') | (refine sD (fun hc => ?_) (fun hc => ?_) <;> try exact sZ hc) | ((with_reducible first | refine En.ret ?_ | refine En.normal ?_); simp only [go_sem, Nat.reduceAdd, Nat.reduceEqDiff, Nat.reduceLT, Nat.reduceLeDiff]) | (simp only [go_sem, Nat.reduceAdd, Nat.reduceMul, Nat.reduceEqDiff, Nat.reduceLT, Nat.reduceLeDiff]; (all_goals fail_if_success show False)) | fail
  all_goals exact kp [⟨0, 0, 123, (cRd b D.2)⟩]
theorem Qy {mem : Mem} {j : Nat} (K : Nat) (b : List Int) {p : Nat} (hj : mem j = .row 123 (cRd b p)) (hK : mem K = .free) (hb : ∀ q, q ≤ 1000000 → RdOk b q) (hp : p + 1000 ≤ 1000000) (hns : ¬ kT b p) : aK Tryz.prog 65 [.ptr j 0] mem fun y m => y = NJ K (aX b p).1 ∧ m = upd (upd mem K (.row 9 ((aX b p).1.disk.cells.map vS))) j (.row 123 (cRd b (aX b p).2)) :=
  aK.frame1 (news := [(9, (aX b p).1.disk.cells.map vS)]) K (NK b p hb hp hns) rfl hj rfl rfl (fun e he => by rw [List.mem_singleton.1 he]; exact mQ _) (fun i hi => by rw [show K + i = K by rw [List.length_singleton] at hi; omega]; exact hK) (fun x hx => by rw [List.mem_singleton.1 hx]; exact jd (by decide)) (rd_h b p 1) (show GOk Tryz.prog _ from fun z hz => by
      simp only [List.mem_cons, List.not_mem_nil, or_false] at hz
      rcases hz with rfl | rfl | rfl | rfl | rfl | rfl | rfl | rfl <;> first | exact HOk.b _ | exact .inl ⟨_, _, _, rfl⟩ | exact dF | exact dB) (fun z hz => (rd_h b _ 1 z hz).1) (fun e he z hz => by rw [List.mem_singleton.1 he] at hz; exact (rQ _ 1 z hz).1)
theorem O8 {mem : Mem} {j : Nat} (b : List Int) {p : Nat} (hj : mem j = .row 123 (cRd b p)) (hb : ∀ q, q ≤ 1000000 → RdOk b q) (hp : p + 1000 ≤ 1000000) (hns : kT b p) : aK Tryz.prog 65 [.ptr j 0] mem fun y m => y = aN (aX b p).1 ∧ m = upd mem j (.row 123 (cRd b (aX b p).2)) :=
  aK.frame1 (news := []) 0 (NL b p hb hp hns) rfl hj rfl rfl (fun e he => by cases he) (fun i hi => absurd hi (Nat.not_lt_zero _)) (fun x hx => by rw [List.mem_singleton.1 hx]; exact jd (by decide)) (rd_h b p 1) (show GOk Tryz.prog _ from fun z hz => by
      simp only [List.mem_cons, List.not_mem_nil, or_false] at hz
      rcases hz with rfl | rfl | rfl | rfl | rfl | rfl | rfl | rfl <;> first | exact HOk.b _ | exact dF | exact dB) (fun z hz => (rd_h b _ 1 z hz).1) (fun e he => by cases he)
end Go.Proofs.YtknciobaifdafaaGreatDoor.T
