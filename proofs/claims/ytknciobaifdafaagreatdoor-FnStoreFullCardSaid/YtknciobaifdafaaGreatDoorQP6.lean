/- The ends of commits: what a refused commit and a fine one leave. -/
import Derived.Test.YtknciobaifdafaaGreatDoorQY6
import Derived.Test.YtknciobaifdafaaGreatDoorQEZ
import Derived.Test.YtknciobaifdafaaGreatDoorQD
import Derived.Test.YtknciobaifdafaaGreatDoorQC1
import Derived.Test.YtknciobaifdafaaGreatDoorQS5
set_option linter.unusedVariables false
set_option linter.unusedSimpArgs false
namespace Go.Proofs.YtknciobaifdafaaGreatDoor.T
open Go Go.Pv Go.Proofs.YtknciobaifdafaaGreatDoor.EF
theorem nX {s : Stor} {d d' e : Dk} (h : d' = aV d) : endI s d' ⟨e, s.turn, s.tries + 1, s.next, s.pages⟩ 2 = bz s d 1 := by
  subst h
  unfold endI bz
  by_cases h : (aV d).left = 0
  · rw [if_pos (.inl h), if_pos h]
  · rw [if_neg (not_or.2 ⟨h, by decide⟩), if_neg h]
    rfl
theorem xE {s done : Stor} {d : Dk} : endI s d done 0 = endS s done d := by
  unfold endI endS
  by_cases h : d.left = 0
  · rw [if_pos (.inl h), if_pos h]
  · rw [if_neg (not_or.2 ⟨h, by decide⟩), if_neg h]
end Go.Proofs.YtknciobaifdafaaGreatDoor.T
set_option linter.unusedVariables false
set_option maxRecDepth 100000
set_option maxHeartbeats 8000000
set_option linter.unusedSimpArgs false
namespace Go.Proofs.YtknciobaifdafaaGreatDoor.T
open Go Go.Pv Go.Proofs.YtknciobaifdafaaGreatDoor.EF
theorem IE (X : Stor) (l : List Wt) (hb : StB X) (hl : listOk l = true) (hn : 0 ≤ X.next ∧ X.next + l.length ≤ 20) (h99 : X.tries < 99) : Ok Tryz.prog 55 [aN X, vWts l] (.tup [dJ (ak X l).1, vI (ak X l).2]) (aJ (ak X l).1) := by
  have hd := hb.disk
  have hp := hb.pages
  have ht := hb.turn
  have hr := hb.tries
  have hlen := bW hl
  have h1 : X.disk.cells.length ≤ 2000000 := by have := hd.cells; omega
  have h2 : X.disk.waits.length ≤ 2000000 := by have := hd.waits; omega
  have hPg : Ok Tryz.prog 98 [vWts l] (vB true) [] := hl ▸ mP l (by omega)
  have hC := iJ X h1 h2 (by omega)
  have hCd := lZ X.disk h1 h2
  have hwt : IntKind.i64.wrap (X.tries + 1) = X.tries + 1 := af (by omega) (by omega)
  have hwn : IntKind.i64.wrap (X.next + (l.length : Int)) = X.next + l.length := af (by omega) (by omega)
  have hwl : IntKind.i64.wrap ((l.length : Int) - 1) = l.length - 1 := af (by omega) (by omega)
  refine stO Tryz.func55 [.cell 4 35, .tmp 5] 124 rfl rfl rfl ?_
  repeat' first | refine sS ?_ | ((with_reducible show aC ..); first | refine cW rfl rfl rfl rfl hCd ?_ | refine cF rfl rfl rfl rfl hPg ?_) | refine sO (fun K' hK' => ?_) | (refine sI (fun hg => ?_) (fun hg K' hK' => ?_) <;> try exact sZ hg) | (refine sE hK' ?_; clear hK') | (refine sD (fun hc => ?_) (fun hc => ?_) <;> try exact sZ hc) | (simp only [go_sem, Nat.reduceAdd, Nat.reduceMul, Nat.reduceEqDiff, Nat.reduceLT, Nat.reduceLeDiff, Bool.not_true, hwn]; (all_goals fail_if_success show False)) | fail
  refine W.loop (fun x : Nat × Dk => ⟨[.any, vWts l, .ptr 0 0, .any, .ptr 1 0, .any, .any, .any, .ptr 2 0, .any, .any, .any, .any, .any, .any, .any, .any, .any, .any, .any, .any, .any, .any, .any, .any, .any, .any, .any, .any, .any, .any, .any, .any, .any, .any, .any, .any, .any, .any, .any, .any, .any, .any, .any, .any, vWts l, vI l.length, vI x.1, .any, .any, .any, .any, .any, .any, .any, .any, .any, .any, .any, .any, .any, .any, .any, .any, .any, .any, .any, .any, .any, .any, .any, .any, .any, .any, .any, .any, .any, .any, .any, .any, .any, .any, .any, .any, .any, .any, .any, .any, .any, .any, .any, .any, .any, .any, .any, .any, .any, .any, .any, .any, .any, .any, .any, .any, .any, .any, .any, .any, .any, .any, .any, .any, .any, .any, .any, .any, .any, .any, .any, .any, .any, .any, .any, .any], aZ [(0, 35, [.val X.disk.cells.length (X.disk.cells.map vS), .val X.disk.waits.length (X.disk.waits.flatMap cWt), vI X.disk.room, vI X.disk.left, vI X.turn, vI X.tries, vI X.next, .val X.pages.length (X.pages.map vS)]), (1, 35, [.b (.slice none 0 0), .b (.slice none 0 0), vI 0, vI 0, vI 0, vI 0, vI 0, .b (.slice none 0 0)]), (2, 33, [.ref 3 0 x.2.cells.length, .ref 4 0 x.2.waits.length, vI x.2.room, vI x.2.left]), (3, 9, x.2.cells.map vS), (4, 110, x.2.waits.flatMap cWt)]⟩)
    (fun x => x.1 ≤ l.length ∧ DkB x.2 ∧ aF X l l.length 0 X.disk = aF X l (l.length - x.1) x.1 x.2) (fun x => l.length - x.1) (0, X.disk) ?wk0 ⟨Nat.zero_le _, hd, rfl⟩ (fun x hx => ?_)
  case wk0 => exact kp [⟨16384, 0, 35, [.val X.disk.cells.length (X.disk.cells.map vS), .val X.disk.waits.length (X.disk.waits.flatMap cWt), vI X.disk.room, vI X.disk.left, vI X.turn, vI X.tries, vI X.next, .val X.pages.length (X.pages.map vS)]⟩, ⟨16400, 1, 35, [.b (.slice none 0 0), .b (.slice none 0 0), vI 0, vI 0, vI 0, vI 0, vI 0, .b (.slice none 0 0)]⟩, ⟨147504, 2, 33, [.ref 3 0 X.disk.cells.length, .ref 4 0 X.disk.waits.length, vI X.disk.room, vI X.disk.left]⟩, ⟨147488, 3, 9, (X.disk.cells.map vS)⟩, ⟨147489, 4, 110, (X.disk.waits.flatMap cWt)⟩]
  obtain ⟨i, e⟩ := x
  obtain ⟨hi, he, hrest⟩ := hx
  dsimp only at hi he hrest ⊢
  by_cases hil : i < l.length
  · have hdr := dG hil
    have hat := fE hl hil
    have hwi : IntKind.i64.wrap (X.next + (i : Int)) = X.next + i := af (by omega) (by omega)
    have hwc : IntKind.i64.wrap (22 + (X.next + (i : Int))) = 22 + (X.next + i) := af (by omega) (by omega)
    have hk : aF X l l.length 0 X.disk = aF X l ((l.length - (i + 1)) + 1) i e := by rw [hrest, show l.length - i = (l.length - (i + 1)) + 1 by omega]
    have hFr : Ok Tryz.prog 100 [.agg [vI X.turn, vI (X.tries + 1), vI (X.next + i), vI (l.getD i wt0).cell, vB (decide ((i : Int) = l.length - 1)), vS (l.getD i wt0).text]] (vS (di X.turn (X.tries + 1) (X.next + i) (l.getD i wt0).cell (decide (i + 1 = l.length)) (l.getD i wt0).text)) [] := by
      rw [show decide ((i : Int) = l.length - 1) = decide (i + 1 = l.length) from decide_eq_decide.2 (by omega)]
      exact Eb ⟨X.turn, X.tries + 1, X.next + i, (l.getD i wt0).cell, decide (i + 1 = l.length), (l.getD i wt0).text⟩ (by dsimp only; omega) (by dsimp only; omega) (by dsimp only; omega) (by dsimp only; omega) (by dsimp only; omega)
    obtain ⟨F, hF⟩ : ∃ F, F = di X.turn (X.tries + 1) (X.next + i) (l.getD i wt0).cell (decide (i + 1 = l.length)) (l.getD i wt0).text := ⟨_, rfl⟩
    rw [← hF] at hFr
    obtain ⟨W1, hW1⟩ : ∃ W1, W1 = aO e (22 + (X.next + i)) F := ⟨_, rfl⟩
    have hB1 : DkB W1.1 := hW1 ▸ fF he _ _
    have hr1 : ∀ {mem : Mem}, mem 2 = .row 33 (dRw 3 4 e) → mem 3 = .row 9 (e.cells.map vS) → mem 4 = .row 110 (e.waits.flatMap cWt) → mem 100 = .free → _ := fun {mem} a b c d => oI (mem := mem) (j := 2) (j1 := 3) (j2 := 4) 100 e (22 + (X.next + i)) F he a b c d
    rw [← hW1] at hr1
    obtain ⟨e', he'⟩ : ∃ e', e' = aV W1.1 := ⟨_, rfl⟩
    have hr2 : ∀ {mem : Mem}, mem 2 = .row 33 (dRw 3 100 W1.1) → mem 3 = .row 9 (W1.1.cells.map vS) → mem 100 = .row 110 (W1.1.waits.flatMap cWt) → mem 101 = .free → _ := fun {mem} a b c d => kw (mem := mem) (j := 2) (j1 := 3) (j2 := 100) 101 W1.1 hB1 a b c d
    rw [← he'] at hr2
    have hBe' : DkB e' := he' ▸ fG hB1
    have hE1 := pJ X e' ⟨X.disk, X.turn, X.tries + 1, X.next, X.pages⟩ 2 (by have := hBe'.cells; omega) (by have := hBe'.waits; omega) (by omega) (by dsimp only; omega)
    repeat' first | refine sS ?_ | ((with_reducible show aC ..); first | refine cM rfl rfl rfl rfl (hr1 (by simp only []; rfl) (by simp only []; rfl) (by simp only []; rfl) (by simp only []; rfl)) ?_ | refine cM rfl rfl rfl rfl (hr2 (by simp only [upd]; rfl) (by simp only [upd]; rfl) (by simp only [upd]; rfl) (by simp only [upd]; rfl)) ?_ | refine cW rfl rfl rfl rfl hE1 ?_) | ((with_reducible show uC ..); refine uF rfl rfl rfl rfl hFr ?_) | refine sO (fun K' hK' => ?_) | refine yA (fun K' hA' => ?_) | ((with_reducible show W _ _ (.region 13 _ _) _ _); refine sV 5 ?_) | (refine sE hK' ?_; clear hK') | (refine sE hA' ?_; clear hA') | (refine sD (fun hc => ?_) (fun hc => ?_) <;> try exact sZ hc) | refine sU ?_ ?_ | exact sX | ((with_reducible first | refine En.ret ?_ | refine En.normal ?_); simp only [go_sem, Nat.reduceAdd, Nat.reduceMul, Nat.reduceEqDiff, Nat.reduceLT, Nat.reduceLeDiff, List.take_succ_cons, List.take_zero]) | (simp only [go_sem, Nat.reduceAdd, Nat.reduceMul, Nat.reduceEqDiff, Nat.reduceLT, Nat.reduceLeDiff, hdr, hwt, hwi, hwl, hwc, List.take_succ_cons, List.take_zero]; (all_goals fail_if_success show False)) | fail
    · have he0 : W1.1 = e := by rw [hW1]; exact oG (by rw [← hW1]; exact hc)
      have hz : endI X e' ⟨X.disk, X.turn, X.tries + 1, X.next, X.pages⟩ 2 = ak X l := by
        rw [nX he', he0, pg (show aF X l l.length 0 X.disk = (e, false) by rw [hk, o9 (by rw [← hF, ← hW1]; exact hc)])]
      rw [← hz]
      generalize endI X e' ⟨X.disk, X.turn, X.tries + 1, X.next, X.pages⟩ 2 = Z
      exact kp [⟨294960, 0, 9, (Z.1.disk.cells.map vS)⟩, ⟨294961, 1, 110, (Z.1.disk.waits.flatMap cWt)⟩, ⟨294962, 2, 9, (Z.1.pages.map vS)⟩]
    · refine Rnd.normal (i + 1, W1.1) ⟨by dsimp only; omega, hB1, ?_⟩ (by dsimp only; omega) ?_
      · dsimp only
        rw [hk, lT (by rw [← hF, ← hW1]; exact hc), ← hF, ← hW1]
      · rw [af (x := (i : Int) + 1) (by omega) (by omega)]
        exact kp [⟨0, 0, 35, [.val X.disk.cells.length (X.disk.cells.map vS), .val X.disk.waits.length (X.disk.waits.flatMap cWt), vI X.disk.room, vI X.disk.left, vI X.turn, vI X.tries, vI X.next, .val X.pages.length (X.pages.map vS)]⟩, ⟨1, 1, 35, [.b (.slice none 0 0), .b (.slice none 0 0), vI 0, vI 0, vI 0, vI 0, vI 0, .b (.slice none 0 0)]⟩, ⟨2, 2, 33, [.ref 3 0 W1.1.cells.length, .ref 4 0 W1.1.waits.length, vI W1.1.room, vI W1.1.left]⟩, ⟨3, 3, 9, (W1.1.cells.map vS)⟩, ⟨100, 4, 110, (W1.1.waits.flatMap cWt)⟩]
  · obtain rfl : i = l.length := by omega
    have hk : aF X l l.length 0 X.disk = (e, true) := by rw [hrest, Nat.sub_self]; rfl
    have hS := nG hk
    obtain ⟨e1, hS1⟩ : ∃ e1, e1 = aV e := ⟨_, rfl⟩
    have he1 : DkB e1 := hS1 ▸ fG he
    rw [← hS1] at hS
    have hr3 : ∀ {mem : Mem}, mem 2 = .row 33 (dRw 3 4 e) → mem 3 = .row 9 (e.cells.map vS) → mem 4 = .row 110 (e.waits.flatMap cWt) → mem 102 = .free → _ := fun {mem} a b c d => kw (mem := mem) (j := 2) (j1 := 3) (j2 := 4) 102 e he a b c d
    rw [← hS1] at hr3
    repeat' first | refine sS ?_ | ((with_reducible show aC ..); first | refine cM rfl rfl rfl rfl (hr3 (by simp only [upd]; rfl) (by simp only [upd]; rfl) (by simp only [upd]; rfl) (by simp only [upd]; rfl)) ?_ | refine cR rfl rfl rfl rfl hC ?_) | refine sO (fun K' hK' => ?_) | (refine sE hK' ?_; clear hK') | (refine sD (fun hc => ?_) (fun hc => ?_) <;> try exact sZ hc) | (simp only [go_sem, Nat.reduceAdd, Nat.reduceMul, Nat.reduceEqDiff, Nat.reduceLT, Nat.reduceLeDiff, hwt, hwn]; (all_goals fail_if_success show False)) | fail
    refine W.loop (fun k : Nat => ⟨[.any, .any, .ptr 0 0, .any, .ptr 1 0, .any, .any, .any, .ptr 2 0, .any, .any, .any, .any, .ptr 5 0, .any, .any, .any, .any, .any, .any, .any, .any, .any, .any, .any, .any, .any, .any, .any, .any, .any, .any, .any, .any, .any, .any, .any, .any, .any, .any, .any, .any, .any, .any, .any, .any, .any, .any, .any, .any, .any, .any, .any, .any, .any, .any, .any, .any, .any, .any, .any, .any, .any, .any, .any, .any, .any, .any, .any, .any, .any, .any, .any, .any, .any, .any, .any, .any, .any, .any, .any, .any, .any, .any, .any, .any, .any, .any, .any, .any, .any, .any, .any, .any, .any, .any, .any, .any, .any, .any, .any, .any, .any, .any, vWts l, vI l.length, vI k, .any, .any, .any, .any, .any, .any, .any, .any, .any, .any, .any, .any, .any, .any, .any, .any, .any], aZ [(0, 35, [.val X.disk.cells.length (X.disk.cells.map vS), .val X.disk.waits.length (X.disk.waits.flatMap cWt), vI X.disk.room, vI X.disk.left, vI X.turn, vI X.tries, vI X.next, .val X.pages.length (X.pages.map vS)]), (1, 35, [.b (.slice none 0 0), .b (.slice none 0 0), vI 0, vI 0, vI 0, vI 0, vI 0, .b (.slice none 0 0)]), (2, 33, [.ref 3 0 e1.cells.length, .ref 4 0 e1.waits.length, vI e1.room, vI e1.left]), (3, 9, e1.cells.map vS), (4, 110, e1.waits.flatMap cWt), (5, 35, [.val X.disk.cells.length (X.disk.cells.map vS), .val X.disk.waits.length (X.disk.waits.flatMap cWt), vI X.disk.room, vI X.disk.left, vI X.turn, vI (X.tries + 1), vI (X.next + l.length), .ref 6 0 X.pages.length]), (6, 9, (aj X.pages (l.take k)).map vS)]⟩)
      (fun k => k ≤ l.length) (fun k => l.length - k) 0 ?wk1 (Nat.zero_le _) (fun k hk2 => ?_)
    case wk1 => exact kp [⟨0, 0, 35, [.val X.disk.cells.length (X.disk.cells.map vS), .val X.disk.waits.length (X.disk.waits.flatMap cWt), vI X.disk.room, vI X.disk.left, vI X.turn, vI X.tries, vI X.next, .val X.pages.length (X.pages.map vS)]⟩, ⟨1, 1, 35, [.b (.slice none 0 0), .b (.slice none 0 0), vI 0, vI 0, vI 0, vI 0, vI 0, .b (.slice none 0 0)]⟩, ⟨2, 2, 33, [.ref 3 0 e1.cells.length, .ref 4 0 e1.waits.length, vI e1.room, vI e1.left]⟩, ⟨3, 3, 9, (e1.cells.map vS)⟩, ⟨102, 4, 110, (e1.waits.flatMap cWt)⟩, ⟨344096, 5, 35, [.val X.disk.cells.length (X.disk.cells.map vS), .val X.disk.waits.length (X.disk.waits.flatMap cWt), vI X.disk.room, vI X.disk.left, vI X.turn, vI (X.tries + 1), vI (X.next + l.length), .ref 6 0 X.pages.length]⟩, ⟨344082, 6, 9, (X.pages.map vS)⟩]
    have hE3 := pJ X e1 ⟨X.disk, X.turn, X.tries + 1, X.next + l.length, aj X.pages l⟩ 0 (by have := he1.cells; omega) (by have := he1.waits; omega) (by omega) (by dsimp only; rw [aQ]; omega)
    have hV : aN ⟨X.disk, X.turn, X.tries + 1, X.next + l.length, aj X.pages l⟩ = .agg [.val X.disk.cells.length (X.disk.cells.map vS), .val X.disk.waits.length (X.disk.waits.flatMap cWt), vI X.disk.room, vI X.disk.left, vI X.turn, vI (X.tries + 1), vI (X.next + l.length), .val X.pages.length ((aj X.pages l).map vS)] := by
      show PV.agg _ = _
      rw [aQ]
    rw [hV] at hE3
    by_cases hkl : k < l.length
    · have hdr := dG hkl
      have hat := fE hl hkl
      have hpl : (aj X.pages (l.take k)).length = 20 := by rw [aQ]; exact hp
      have hst := eQ (l := X.pages) hkl
      repeat' first | refine sS ?_ | refine sO (fun K' hK' => ?_) | (refine sE hK' ?_; clear hK') | (refine sD (fun hc => ?_) (fun hc => ?_) <;> try exact sZ hc) | refine sU ?_ ?_ | exact sX | (simp only [go_sem, Nat.reduceAdd, Nat.reduceMul, Nat.reduceEqDiff, Nat.reduceLT, Nat.reduceLeDiff, hdr, List.take_succ_cons, List.take_zero]; (all_goals fail_if_success show False)) | fail
      refine Rnd.normal (k + 1) (by omega) (by omega) ?_
      rw [af (x := (k : Int) + 1) (by omega) (by omega), hst, show ((aj X.pages (l.take k)).map vS).set (l.getD k wt0).cell.toNat (.b (.string (l.getD k wt0).text)) = ((aj X.pages (l.take k)).set (l.getD k wt0).cell.toNat (l.getD k wt0).text).map vS from dm]
      exact kp [⟨0, 0, 35, [.val X.disk.cells.length (X.disk.cells.map vS), .val X.disk.waits.length (X.disk.waits.flatMap cWt), vI X.disk.room, vI X.disk.left, vI X.turn, vI X.tries, vI X.next, .val X.pages.length (X.pages.map vS)]⟩, ⟨1, 1, 35, [.b (.slice none 0 0), .b (.slice none 0 0), vI 0, vI 0, vI 0, vI 0, vI 0, .b (.slice none 0 0)]⟩, ⟨2, 2, 33, [.ref 3 0 e1.cells.length, .ref 4 0 e1.waits.length, vI e1.room, vI e1.left]⟩, ⟨3, 3, 9, (e1.cells.map vS)⟩, ⟨4, 4, 110, (e1.waits.flatMap cWt)⟩, ⟨5, 5, 35, [.val X.disk.cells.length (X.disk.cells.map vS), .val X.disk.waits.length (X.disk.waits.flatMap cWt), vI X.disk.room, vI X.disk.left, vI X.turn, vI (X.tries + 1), vI (X.next + l.length), .ref 6 0 X.pages.length]⟩, ⟨6, 6, 9, (((aj X.pages (l.take k)).set (l.getD k wt0).cell.toNat (l.getD k wt0).text).map vS)⟩]
    · obtain rfl : k = l.length := by omega
      rw [List.take_length]
      repeat' first | refine sS ?_ | ((with_reducible show aC ..); refine cW rfl rfl rfl rfl hE3 ?_) | refine sO (fun K' hK' => ?_) | (refine sE hK' ?_; clear hK') | (refine sD (fun hc => ?_) (fun hc => ?_) <;> try exact sZ hc) | ((with_reducible first | refine En.ret ?_ | refine En.normal ?_); simp only [go_sem, Nat.reduceAdd, Nat.reduceMul, Nat.reduceEqDiff, Nat.reduceLT, Nat.reduceLeDiff]) | (simp only [go_sem, Nat.reduceAdd, Nat.reduceMul, Nat.reduceEqDiff, Nat.reduceLT, Nat.reduceLeDiff]; (all_goals fail_if_success show False)) | fail
      rw [show ak X l = endI X e1 ⟨X.disk, X.turn, X.tries + 1, X.next + l.length, aj X.pages l⟩ 0 by rw [hS, xE]]
      generalize endI X e1 ⟨X.disk, X.turn, X.tries + 1, X.next + l.length, aj X.pages l⟩ 0 = Z
      exact kp [⟨475184, 0, 9, (Z.1.disk.cells.map vS)⟩, ⟨475185, 1, 110, (Z.1.disk.waits.flatMap cWt)⟩, ⟨475186, 2, 9, (Z.1.pages.map vS)⟩]
end Go.Proofs.YtknciobaifdafaaGreatDoor.T
set_option linter.unusedVariables false
set_option maxRecDepth 100000
set_option maxHeartbeats 8000000
set_option linter.unusedSimpArgs false
namespace Go.Proofs.YtknciobaifdafaaGreatDoor.T
open Go Go.Pv Go.Proofs.YtknciobaifdafaaGreatDoor.EF
theorem IG (s X : Stor) (l : List Wt) (hbs : StB s) (hb : StB X) (hl : listOk l = true) (hns : 0 ≤ s.next ∧ s.next ≤ 20) (hq : ah s = (X, 0)) (hX : X.next = 0) (h20 : 20 < s.next + l.length) : Ok Tryz.prog 55 [aN s, vWts l] (.tup [dJ (ak X l).1, vI (ak X l).2]) (aJ (ak X l).1) := by
  have hR := wz s hbs
  rw [hq] at hR
  have hn : 0 ≤ X.next ∧ X.next + l.length ≤ 20 := by have := bW hl; omega
  have hts := hbs.tries
  have hd := hb.disk
  have hp := hb.pages
  have ht := hb.turn
  have hr := hb.tries
  have hlen := bW hl
  have h1 : X.disk.cells.length ≤ 2000000 := by have := hd.cells; omega
  have h2 : X.disk.waits.length ≤ 2000000 := by have := hd.waits; omega
  have hPg : Ok Tryz.prog 98 [vWts l] (vB true) [] := hl ▸ mP l (by omega)
  have hC := iJ X h1 h2 (by omega)
  have hCd := lZ X.disk h1 h2
  have hwt : IntKind.i64.wrap (X.tries + 1) = X.tries + 1 := af (by omega) (by omega)
  have hwn : IntKind.i64.wrap (X.next + (l.length : Int)) = X.next + l.length := af (by omega) (by omega)
  have hwl : IntKind.i64.wrap ((l.length : Int) - 1) = l.length - 1 := af (by omega) (by omega)
  have hwm : IntKind.i64.wrap (s.next + (l.length : Int)) = s.next + l.length := af (by omega) (by omega)
  refine stO Tryz.func55 [.cell 4 35, .tmp 5] 124 rfl rfl rfl ?_
  repeat' first | refine sS ?_ | ((with_reducible show aC ..); first | refine cW rfl rfl rfl rfl hCd ?_ | refine cF rfl rfl rfl rfl hPg ?_ | refine cR rfl rfl rfl rfl hR ?_) | refine sO (fun K' hK' => ?_) | refine sY ?_ | (refine sI (fun hg => ?_) (fun hg K' hK' => ?_) <;> try exact sZ hg) | (refine sE hK' ?_; clear hK') | (refine sD (fun hc => ?_) (fun hc => ?_) <;> try exact sZ hc) | (simp only [go_sem, Nat.reduceAdd, Nat.reduceMul, Nat.reduceEqDiff, Nat.reduceLT, Nat.reduceLeDiff, Bool.not_true, hwm]; (all_goals fail_if_success show False)) | fail
  refine W.loop (fun x : Nat × Dk => ⟨[.any, vWts l, .ptr 0 0, .any, .ptr 1 0, .any, .any, .any, .ptr 2 0, .any, .any, .any, .any, .any, .any, .any, .any, .any, .any, .any, .any, .any, .any, .any, .any, .any, .any, .any, .any, .any, .any, .any, .any, .any, .any, .any, .any, .any, .any, .any, .any, .any, .any, .any, .any, vWts l, vI l.length, vI x.1, .any, .any, .any, .any, .any, .any, .any, .any, .any, .any, .any, .any, .any, .any, .any, .any, .any, .any, .any, .any, .any, .any, .any, .any, .any, .any, .any, .any, .any, .any, .any, .any, .any, .any, .any, .any, .any, .any, .any, .any, .any, .any, .any, .any, .any, .any, .any, .any, .any, .any, .any, .any, .any, .any, .any, .any, .any, .any, .any, .any, .any, .any, .any, .any, .any, .any, .any, .any, .any, .any, .any, .any, .any, .any, .any, .any], aZ [(0, 35, [.val X.disk.cells.length (X.disk.cells.map vS), .val X.disk.waits.length (X.disk.waits.flatMap cWt), vI X.disk.room, vI X.disk.left, vI X.turn, vI X.tries, vI X.next, .val X.pages.length (X.pages.map vS)]), (1, 35, [.b (.slice none 0 0), .b (.slice none 0 0), vI 0, vI 0, vI 0, vI 0, vI 0, .b (.slice none 0 0)]), (2, 33, [.ref 3 0 x.2.cells.length, .ref 4 0 x.2.waits.length, vI x.2.room, vI x.2.left]), (3, 9, x.2.cells.map vS), (4, 110, x.2.waits.flatMap cWt)]⟩)
    (fun x => x.1 ≤ l.length ∧ DkB x.2 ∧ aF X l l.length 0 X.disk = aF X l (l.length - x.1) x.1 x.2) (fun x => l.length - x.1) (0, X.disk) ?wk0 ⟨Nat.zero_le _, hd, rfl⟩ (fun x hx => ?_)
  case wk0 => exact kp [⟨16384, 0, 35, [.val X.disk.cells.length (X.disk.cells.map vS), .val X.disk.waits.length (X.disk.waits.flatMap cWt), vI X.disk.room, vI X.disk.left, vI X.turn, vI X.tries, vI X.next, .val X.pages.length (X.pages.map vS)]⟩, ⟨16400, 1, 35, [.b (.slice none 0 0), .b (.slice none 0 0), vI 0, vI 0, vI 0, vI 0, vI 0, .b (.slice none 0 0)]⟩, ⟨147504, 2, 33, [.ref 3 0 X.disk.cells.length, .ref 4 0 X.disk.waits.length, vI X.disk.room, vI X.disk.left]⟩, ⟨147488, 3, 9, (X.disk.cells.map vS)⟩, ⟨147489, 4, 110, (X.disk.waits.flatMap cWt)⟩]
  obtain ⟨i, e⟩ := x
  obtain ⟨hi, he, hrest⟩ := hx
  dsimp only at hi he hrest ⊢
  by_cases hil : i < l.length
  · have hdr := dG hil
    have hat := fE hl hil
    have hwi : IntKind.i64.wrap (X.next + (i : Int)) = X.next + i := af (by omega) (by omega)
    have hwc : IntKind.i64.wrap (22 + (X.next + (i : Int))) = 22 + (X.next + i) := af (by omega) (by omega)
    have hk : aF X l l.length 0 X.disk = aF X l ((l.length - (i + 1)) + 1) i e := by rw [hrest, show l.length - i = (l.length - (i + 1)) + 1 by omega]
    have hFr : Ok Tryz.prog 100 [.agg [vI X.turn, vI (X.tries + 1), vI (X.next + i), vI (l.getD i wt0).cell, vB (decide ((i : Int) = l.length - 1)), vS (l.getD i wt0).text]] (vS (di X.turn (X.tries + 1) (X.next + i) (l.getD i wt0).cell (decide (i + 1 = l.length)) (l.getD i wt0).text)) [] := by
      rw [show decide ((i : Int) = l.length - 1) = decide (i + 1 = l.length) from decide_eq_decide.2 (by omega)]
      exact Eb ⟨X.turn, X.tries + 1, X.next + i, (l.getD i wt0).cell, decide (i + 1 = l.length), (l.getD i wt0).text⟩ (by dsimp only; omega) (by dsimp only; omega) (by dsimp only; omega) (by dsimp only; omega) (by dsimp only; omega)
    obtain ⟨F, hF⟩ : ∃ F, F = di X.turn (X.tries + 1) (X.next + i) (l.getD i wt0).cell (decide (i + 1 = l.length)) (l.getD i wt0).text := ⟨_, rfl⟩
    rw [← hF] at hFr
    obtain ⟨W1, hW1⟩ : ∃ W1, W1 = aO e (22 + (X.next + i)) F := ⟨_, rfl⟩
    have hB1 : DkB W1.1 := hW1 ▸ fF he _ _
    have hr1 : ∀ {mem : Mem}, mem 2 = .row 33 (dRw 3 4 e) → mem 3 = .row 9 (e.cells.map vS) → mem 4 = .row 110 (e.waits.flatMap cWt) → mem 100 = .free → _ := fun {mem} a b c d => oI (mem := mem) (j := 2) (j1 := 3) (j2 := 4) 100 e (22 + (X.next + i)) F he a b c d
    rw [← hW1] at hr1
    obtain ⟨e', he'⟩ : ∃ e', e' = aV W1.1 := ⟨_, rfl⟩
    have hr2 : ∀ {mem : Mem}, mem 2 = .row 33 (dRw 3 100 W1.1) → mem 3 = .row 9 (W1.1.cells.map vS) → mem 100 = .row 110 (W1.1.waits.flatMap cWt) → mem 101 = .free → _ := fun {mem} a b c d => kw (mem := mem) (j := 2) (j1 := 3) (j2 := 100) 101 W1.1 hB1 a b c d
    rw [← he'] at hr2
    have hBe' : DkB e' := he' ▸ fG hB1
    have hE1 := pJ X e' ⟨X.disk, X.turn, X.tries + 1, X.next, X.pages⟩ 2 (by have := hBe'.cells; omega) (by have := hBe'.waits; omega) (by omega) (by dsimp only; omega)
    repeat' first | refine sS ?_ | ((with_reducible show aC ..); first | refine cM rfl rfl rfl rfl (hr1 (by simp only []; rfl) (by simp only []; rfl) (by simp only []; rfl) (by simp only []; rfl)) ?_ | refine cM rfl rfl rfl rfl (hr2 (by simp only [upd]; rfl) (by simp only [upd]; rfl) (by simp only [upd]; rfl) (by simp only [upd]; rfl)) ?_ | refine cW rfl rfl rfl rfl hE1 ?_) | ((with_reducible show uC ..); refine uF rfl rfl rfl rfl hFr ?_) | refine sO (fun K' hK' => ?_) | refine yA (fun K' hA' => ?_) | ((with_reducible show W _ _ (.region 13 _ _) _ _); refine sV 5 ?_) | (refine sE hK' ?_; clear hK') | (refine sE hA' ?_; clear hA') | (refine sD (fun hc => ?_) (fun hc => ?_) <;> try exact sZ hc) | refine sU ?_ ?_ | exact sX | ((with_reducible first | refine En.ret ?_ | refine En.normal ?_); simp only [go_sem, Nat.reduceAdd, Nat.reduceMul, Nat.reduceEqDiff, Nat.reduceLT, Nat.reduceLeDiff, List.take_succ_cons, List.take_zero]) | (simp only [go_sem, Nat.reduceAdd, Nat.reduceMul, Nat.reduceEqDiff, Nat.reduceLT, Nat.reduceLeDiff, hdr, hwt, hwi, hwl, hwc, List.take_succ_cons, List.take_zero]; (all_goals fail_if_success show False)) | fail
    · have he0 : W1.1 = e := by rw [hW1]; exact oG (by rw [← hW1]; exact hc)
      have hz : endI X e' ⟨X.disk, X.turn, X.tries + 1, X.next, X.pages⟩ 2 = ak X l := by
        rw [nX he', he0, pg (show aF X l l.length 0 X.disk = (e, false) by rw [hk, o9 (by rw [← hF, ← hW1]; exact hc)])]
      rw [← hz]
      generalize endI X e' ⟨X.disk, X.turn, X.tries + 1, X.next, X.pages⟩ 2 = Z
      exact kp [⟨294960, 0, 9, (Z.1.disk.cells.map vS)⟩, ⟨294961, 1, 110, (Z.1.disk.waits.flatMap cWt)⟩, ⟨294962, 2, 9, (Z.1.pages.map vS)⟩]
    · refine Rnd.normal (i + 1, W1.1) ⟨by dsimp only; omega, hB1, ?_⟩ (by dsimp only; omega) ?_
      · dsimp only
        rw [hk, lT (by rw [← hF, ← hW1]; exact hc), ← hF, ← hW1]
      · rw [af (x := (i : Int) + 1) (by omega) (by omega)]
        exact kp [⟨0, 0, 35, [.val X.disk.cells.length (X.disk.cells.map vS), .val X.disk.waits.length (X.disk.waits.flatMap cWt), vI X.disk.room, vI X.disk.left, vI X.turn, vI X.tries, vI X.next, .val X.pages.length (X.pages.map vS)]⟩, ⟨1, 1, 35, [.b (.slice none 0 0), .b (.slice none 0 0), vI 0, vI 0, vI 0, vI 0, vI 0, .b (.slice none 0 0)]⟩, ⟨2, 2, 33, [.ref 3 0 W1.1.cells.length, .ref 4 0 W1.1.waits.length, vI W1.1.room, vI W1.1.left]⟩, ⟨3, 3, 9, (W1.1.cells.map vS)⟩, ⟨100, 4, 110, (W1.1.waits.flatMap cWt)⟩]
  · obtain rfl : i = l.length := by omega
    have hk : aF X l l.length 0 X.disk = (e, true) := by rw [hrest, Nat.sub_self]; rfl
    have hS := nG hk
    obtain ⟨e1, hS1⟩ : ∃ e1, e1 = aV e := ⟨_, rfl⟩
    have he1 : DkB e1 := hS1 ▸ fG he
    rw [← hS1] at hS
    have hr3 : ∀ {mem : Mem}, mem 2 = .row 33 (dRw 3 4 e) → mem 3 = .row 9 (e.cells.map vS) → mem 4 = .row 110 (e.waits.flatMap cWt) → mem 102 = .free → _ := fun {mem} a b c d => kw (mem := mem) (j := 2) (j1 := 3) (j2 := 4) 102 e he a b c d
    rw [← hS1] at hr3
    repeat' first | refine sS ?_ | ((with_reducible show aC ..); first | refine cM rfl rfl rfl rfl (hr3 (by simp only [upd]; rfl) (by simp only [upd]; rfl) (by simp only [upd]; rfl) (by simp only [upd]; rfl)) ?_ | refine cR rfl rfl rfl rfl hC ?_) | refine sO (fun K' hK' => ?_) | (refine sE hK' ?_; clear hK') | (refine sD (fun hc => ?_) (fun hc => ?_) <;> try exact sZ hc) | (simp only [go_sem, Nat.reduceAdd, Nat.reduceMul, Nat.reduceEqDiff, Nat.reduceLT, Nat.reduceLeDiff, hwt, hwn]; (all_goals fail_if_success show False)) | fail
    refine W.loop (fun k : Nat => ⟨[.any, .any, .ptr 0 0, .any, .ptr 1 0, .any, .any, .any, .ptr 2 0, .any, .any, .any, .any, .ptr 5 0, .any, .any, .any, .any, .any, .any, .any, .any, .any, .any, .any, .any, .any, .any, .any, .any, .any, .any, .any, .any, .any, .any, .any, .any, .any, .any, .any, .any, .any, .any, .any, .any, .any, .any, .any, .any, .any, .any, .any, .any, .any, .any, .any, .any, .any, .any, .any, .any, .any, .any, .any, .any, .any, .any, .any, .any, .any, .any, .any, .any, .any, .any, .any, .any, .any, .any, .any, .any, .any, .any, .any, .any, .any, .any, .any, .any, .any, .any, .any, .any, .any, .any, .any, .any, .any, .any, .any, .any, .any, .any, vWts l, vI l.length, vI k, .any, .any, .any, .any, .any, .any, .any, .any, .any, .any, .any, .any, .any, .any, .any, .any, .any], aZ [(0, 35, [.val X.disk.cells.length (X.disk.cells.map vS), .val X.disk.waits.length (X.disk.waits.flatMap cWt), vI X.disk.room, vI X.disk.left, vI X.turn, vI X.tries, vI X.next, .val X.pages.length (X.pages.map vS)]), (1, 35, [.b (.slice none 0 0), .b (.slice none 0 0), vI 0, vI 0, vI 0, vI 0, vI 0, .b (.slice none 0 0)]), (2, 33, [.ref 3 0 e1.cells.length, .ref 4 0 e1.waits.length, vI e1.room, vI e1.left]), (3, 9, e1.cells.map vS), (4, 110, e1.waits.flatMap cWt), (5, 35, [.val X.disk.cells.length (X.disk.cells.map vS), .val X.disk.waits.length (X.disk.waits.flatMap cWt), vI X.disk.room, vI X.disk.left, vI X.turn, vI (X.tries + 1), vI (X.next + l.length), .ref 6 0 X.pages.length]), (6, 9, (aj X.pages (l.take k)).map vS)]⟩)
      (fun k => k ≤ l.length) (fun k => l.length - k) 0 ?wk1 (Nat.zero_le _) (fun k hk2 => ?_)
    case wk1 => exact kp [⟨0, 0, 35, [.val X.disk.cells.length (X.disk.cells.map vS), .val X.disk.waits.length (X.disk.waits.flatMap cWt), vI X.disk.room, vI X.disk.left, vI X.turn, vI X.tries, vI X.next, .val X.pages.length (X.pages.map vS)]⟩, ⟨1, 1, 35, [.b (.slice none 0 0), .b (.slice none 0 0), vI 0, vI 0, vI 0, vI 0, vI 0, .b (.slice none 0 0)]⟩, ⟨2, 2, 33, [.ref 3 0 e1.cells.length, .ref 4 0 e1.waits.length, vI e1.room, vI e1.left]⟩, ⟨3, 3, 9, (e1.cells.map vS)⟩, ⟨102, 4, 110, (e1.waits.flatMap cWt)⟩, ⟨344096, 5, 35, [.val X.disk.cells.length (X.disk.cells.map vS), .val X.disk.waits.length (X.disk.waits.flatMap cWt), vI X.disk.room, vI X.disk.left, vI X.turn, vI (X.tries + 1), vI (X.next + l.length), .ref 6 0 X.pages.length]⟩, ⟨344082, 6, 9, (X.pages.map vS)⟩]
    have hE3 := pJ X e1 ⟨X.disk, X.turn, X.tries + 1, X.next + l.length, aj X.pages l⟩ 0 (by have := he1.cells; omega) (by have := he1.waits; omega) (by omega) (by dsimp only; rw [aQ]; omega)
    have hV : aN ⟨X.disk, X.turn, X.tries + 1, X.next + l.length, aj X.pages l⟩ = .agg [.val X.disk.cells.length (X.disk.cells.map vS), .val X.disk.waits.length (X.disk.waits.flatMap cWt), vI X.disk.room, vI X.disk.left, vI X.turn, vI (X.tries + 1), vI (X.next + l.length), .val X.pages.length ((aj X.pages l).map vS)] := by
      show PV.agg _ = _
      rw [aQ]
    rw [hV] at hE3
    by_cases hkl : k < l.length
    · have hdr := dG hkl
      have hat := fE hl hkl
      have hpl : (aj X.pages (l.take k)).length = 20 := by rw [aQ]; exact hp
      have hst := eQ (l := X.pages) hkl
      repeat' first | refine sS ?_ | refine sO (fun K' hK' => ?_) | (refine sE hK' ?_; clear hK') | (refine sD (fun hc => ?_) (fun hc => ?_) <;> try exact sZ hc) | refine sU ?_ ?_ | exact sX | (simp only [go_sem, Nat.reduceAdd, Nat.reduceMul, Nat.reduceEqDiff, Nat.reduceLT, Nat.reduceLeDiff, hdr, List.take_succ_cons, List.take_zero]; (all_goals fail_if_success show False)) | fail
      refine Rnd.normal (k + 1) (by omega) (by omega) ?_
      rw [af (x := (k : Int) + 1) (by omega) (by omega), hst, show ((aj X.pages (l.take k)).map vS).set (l.getD k wt0).cell.toNat (.b (.string (l.getD k wt0).text)) = ((aj X.pages (l.take k)).set (l.getD k wt0).cell.toNat (l.getD k wt0).text).map vS from dm]
      exact kp [⟨0, 0, 35, [.val X.disk.cells.length (X.disk.cells.map vS), .val X.disk.waits.length (X.disk.waits.flatMap cWt), vI X.disk.room, vI X.disk.left, vI X.turn, vI X.tries, vI X.next, .val X.pages.length (X.pages.map vS)]⟩, ⟨1, 1, 35, [.b (.slice none 0 0), .b (.slice none 0 0), vI 0, vI 0, vI 0, vI 0, vI 0, .b (.slice none 0 0)]⟩, ⟨2, 2, 33, [.ref 3 0 e1.cells.length, .ref 4 0 e1.waits.length, vI e1.room, vI e1.left]⟩, ⟨3, 3, 9, (e1.cells.map vS)⟩, ⟨4, 4, 110, (e1.waits.flatMap cWt)⟩, ⟨5, 5, 35, [.val X.disk.cells.length (X.disk.cells.map vS), .val X.disk.waits.length (X.disk.waits.flatMap cWt), vI X.disk.room, vI X.disk.left, vI X.turn, vI (X.tries + 1), vI (X.next + l.length), .ref 6 0 X.pages.length]⟩, ⟨6, 6, 9, (((aj X.pages (l.take k)).set (l.getD k wt0).cell.toNat (l.getD k wt0).text).map vS)⟩]
    · obtain rfl : k = l.length := by omega
      rw [List.take_length]
      repeat' first | refine sS ?_ | ((with_reducible show aC ..); refine cW rfl rfl rfl rfl hE3 ?_) | refine sO (fun K' hK' => ?_) | (refine sE hK' ?_; clear hK') | (refine sD (fun hc => ?_) (fun hc => ?_) <;> try exact sZ hc) | ((with_reducible first | refine En.ret ?_ | refine En.normal ?_); simp only [go_sem, Nat.reduceAdd, Nat.reduceMul, Nat.reduceEqDiff, Nat.reduceLT, Nat.reduceLeDiff]) | (simp only [go_sem, Nat.reduceAdd, Nat.reduceMul, Nat.reduceEqDiff, Nat.reduceLT, Nat.reduceLeDiff]; (all_goals fail_if_success show False)) | fail
      rw [show ak X l = endI X e1 ⟨X.disk, X.turn, X.tries + 1, X.next + l.length, aj X.pages l⟩ 0 by rw [hS, xE]]
      generalize endI X e1 ⟨X.disk, X.turn, X.tries + 1, X.next + l.length, aj X.pages l⟩ 0 = Z
      exact kp [⟨475184, 0, 9, (Z.1.disk.cells.map vS)⟩, ⟨475185, 1, 110, (Z.1.disk.waits.flatMap cWt)⟩, ⟨475186, 2, 9, (Z.1.pages.map vS)⟩]
end Go.Proofs.YtknciobaifdafaaGreatDoor.T
