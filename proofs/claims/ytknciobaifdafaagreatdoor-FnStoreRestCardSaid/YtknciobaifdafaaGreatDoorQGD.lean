/- The draws of the store, walked, part 13: a store of another turn, with rows of its own. -/
import Derived.Test.YtknciobaifdafaaGreatDoorQGC
import Derived.Test.YtknciobaifdafaaGreatDoorQM1
set_option linter.unusedVariables false
set_option maxRecDepth 100000
set_option maxHeartbeats 4000000
set_option linter.unusedSimpArgs false
namespace Go.Pv
def yj (s : Stor) (T : Int) : List ByteArray := ((s.disk.cells.set 0 ByteArray.empty).set 1 ByteArray.empty).set (T.tmod 2).toNat (headB T)
theorem Dp {s : Stor} {T : Int} (h : Good s) : (yj s T).length = 42 := by unfold yj; rw [List.length_set, List.length_set, List.length_set, h.len]
theorem Az {s : Stor} {T : Int} (h : Good s) : (jb s T).length = 42 ∧ (∀ k, k < 2 → cellAt (jb s T) k = cellAt (yj s T) k) ∧ (∀ q, q < 20 → cellAt (jb s T) (2 + q) = cellAt s.pages q) ∧ ∀ m, m < 20 → cellAt (jb s T) (22 + m) = ByteArray.empty := by
  have hp := h.pages_len
  have hl0 := Dp (T := T) h
  have hl2 : ((yj s T).take 2).length = 2 := by rw [List.length_take, hl0]; rfl
  have e : jb s T = (yj s T).take 2 ++ (s.pages ++ List.replicate 20 ByteArray.empty) := List.append_assoc ..
  refine ⟨by rw [e, List.length_append, List.length_append, hl2, hp, List.length_replicate], fun k hk => ?_, fun q hq => ?_, fun m hm => ?_⟩
  · rw [e]
    unfold cellAt
    rw [List.getD_eq_getElem?_getD, List.getD_eq_getElem?_getD, List.getElem?_append_left (by omega), List.getElem?_take, if_pos hk]
  · rw [e]
    unfold cellAt
    rw [List.getD_eq_getElem?_getD, List.getD_eq_getElem?_getD, List.getElem?_append_right (by omega), hl2, show 2 + q - 2 = q by omega, List.getElem?_append_left (by omega)]
  · rw [e]
    unfold cellAt
    rw [List.getD_eq_getElem?_getD, List.getElem?_append_right (by omega), hl2, List.getElem?_append_right (by omega), hp, List.getElem?_replicate, if_pos (by omega)]
    rfl
theorem GU {s : Stor} {T : Int} (h : Good s) : ay (jb s T) = s.pages := by
  obtain ⟨h1, _, h3, _⟩ := Az (T := T) h
  refine rD (by rw [bP h1, h.pages_len]) fun k hk => ?_
  rw [bP h1] at hk
  rw [jk h1 hk, h3 k hk]
structure TurnI (s : Stor) (T : Int) (i m : Nat) (X : List ByteArray) : Prop where
  len : X.length = 42
  head : ∀ k, k < 2 → cellAt X k = cellAt (yj s T) k
  data : ∀ q, q < i → cellAt X (2 + q) = cellAt s.pages q
  logs : ∀ q, q < m → cellAt X (22 + q) = ByteArray.empty
theorem TurnI.start {s : Stor} {T : Int} (h : Good s) : TurnI s T 0 0 (yj s T) := ⟨Dp h, fun _ _ => rfl, fun q hq => absurd hq (Nat.not_lt_zero _), fun q hq => absurd hq (Nat.not_lt_zero _)⟩
theorem TurnI.step {s : Stor} {T : Int} {i : Nat} {X : List ByteArray} (h : TurnI s T i 0 X) (hi : i < 20) : TurnI s T (i + 1) 0 (X.set (2 + i) (cellAt s.pages i)) := by
  have hl := h.len
  refine ⟨by rw [List.length_set]; exact hl, fun k hk => ?_, fun q hq => ?_, fun q hq => absurd hq (Nat.not_lt_zero _)⟩
  · rw [at_set, if_neg (fun e => by have := e.1; omega)]; exact h.head k hk
  · rw [at_set]
    by_cases e : 2 + i = 2 + q
    · rw [if_pos ⟨e, by omega⟩, show i = q by omega]
    · rw [if_neg (fun x => e x.1)]; exact h.data q (by omega)
theorem TurnI.clear {s : Stor} {T : Int} {m : Nat} {X : List ByteArray} (h : TurnI s T 20 m X) (hm : m < 20) : TurnI s T 20 (m + 1) (X.set (22 + m) ByteArray.empty) := by
  have hl := h.len
  refine ⟨by rw [List.length_set]; exact hl, fun k hk => ?_, fun q hq => ?_, fun q hq => ?_⟩
  · rw [at_set, if_neg (fun e => by have := e.1; omega)]; exact h.head k hk
  · rw [at_set, if_neg (fun e => by have := e.1; omega)]; exact h.data q hq
  · rw [at_set]
    by_cases e : 22 + m = 22 + q
    · rw [if_pos ⟨e, by omega⟩]
    · rw [if_neg (fun x => e x.1)]; exact h.logs q (by omega)
theorem TurnI.done {s : Stor} {T : Int} {X : List ByteArray} (hg : Good s) (h : TurnI s T 20 20 X) : X = jb s T := by
  obtain ⟨h1, h2, h3, h4⟩ := Az (T := T) hg
  refine rD (by rw [h.len, h1]) fun k hk => ?_
  rw [h.len] at hk
  rcases Nat.lt_or_ge k 2 with k1 | k1
  · rw [h.head k k1, h2 k k1]
  · rcases Nat.lt_or_ge k 22 with k2 | k2
    · have a := h.data (k - 2) (by omega)
      have b := h3 (k - 2) (by omega)
      rw [show 2 + (k - 2) = k by omega] at a b
      rw [a, b]
    · have a := h.logs (k - 22) (by omega)
      have b := h4 (k - 22) (by omega)
      rw [show 22 + (k - 22) = k by omega] at a b
      rw [a, b]
def yl (s : Stor) (T : Int) : Stor := ⟨⟨jb s T, [], s.disk.room, s.disk.left⟩, T, 0, 0, s.pages⟩
end Go.Pv
namespace Go.Proofs.YtknciobaifdafaaGreatDoor.T
open Go Go.Pv Go.Proofs.YtknciobaifdafaaGreatDoor.EF
theorem GV (s : Stor) (T : Int) (hg : Go.Pv.Good s) (hrm : s.disk.room = -1) (hlf : s.disk.left = -1) (hT : 1 ≤ T ∧ T ≤ 99999) : Ok Tryz.prog 149 [aN s, vI T] (dJ (yl s T)) (aJ (yl s T)) := by
  have hlen := hg.len
  have hpl := hg.pages_len
  have hw0 : s.disk.waits = [] := hg.waits
  have hwl : s.disk.waits.length = 0 := by rw [hw0]; rfl
  have hgT := CZ (rm := s.disk.room) (lf := s.disk.left) hg hT
  have hCp := ig s.disk (by omega) (by omega)
  have hH := oH T (by omega) (by omega)
  have hR : Ok Tryz.prog 81 [vDk ⟨jb s T, s.disk.waits, s.disk.room, s.disk.left⟩] (.tup [dJ (yl s T), vB true]) (aJ (yl s T)) := by
    rw [hw0]
    exact Aw (yl s T) hgT (by show -1 ≤ s.disk.room; omega) (by show -1 ≤ s.disk.left; omega) rfl rfl (GU hg).symm
  have hm : 0 ≤ T.tmod 2 ∧ T.tmod 2 ≤ 1 := by rw [Int.tmod_eq_emod_of_nonneg (by omega)]; omega
  have hlT := (Az (T := T) hg).1
  have hst := TurnI.start (T := T) hg
  have hdone := fun X => TurnI.done (X := X) (T := T) hg
  obtain ⟨H, hHe⟩ : ∃ H, H = headB T := ⟨_, rfl⟩
  obtain ⟨HC, hHC⟩ : ∃ HC, HC = yj s T := ⟨_, rfl⟩
  have hrow0 : (((s.disk.cells.map vS).set 0 (vS ⟨#[]⟩)).set 1 (vS ⟨#[]⟩)).set (T.tmod 2).toNat (vS H) = HC.map vS := by
    rw [hHC, hHe, dm, dm, dm]
    rfl
  rw [← hHe] at hH
  rw [← hHC] at hst
  clear hHC hHe
  generalize hS : yl s T = S at hR ⊢
  refine Ok.walk Tryz.func149 rfl ?_; simp only [kU, show Tryz.f149.ntmps = 55 from rfl, List.length_cons, List.length_nil, Nat.reduceAdd, Nat.reduceSub, List.replicate, List.cons_append, List.nil_append]
  repeat' first | ((with_reducible apply lJ.mk); (case hg => exact rfl); (case hst => (intro m2 hm2 K' hK'; simp only [aop, List.length_map, Bool.and_true, St.eval, List.getD_cons_zero, List.getD_cons_succ, jP, cellsOf, storable, storeL, sh, shA, shC, List.map_cons, List.map_nil, List.length_cons, List.length_nil, List.all_cons, List.all_nil, true_and, Nat.reduceAdd, Nat.reduceMul, Value.cells, Value.oneCell', Nat.zero_add, Nat.add_zero, List.length_set, ti9, hm2]; first | exact hK' | (simp only [List.length_set]; (repeat' (with_reducible refine And.intro ?_ ?_)) <;> first | exact hK' | omega) | ((repeat' (with_reducible refine And.intro ?_ ?_)) <;> first | exact hK' | omega))); (case' hrest => dsimp only [putL, List.set])) | ((with_reducible apply W.drawS (id := 4) (n := 8) (q := 7) (r := 32800)); (case hf => exact mixed); (case hB => kernel_rfl); (case hs => (simp only [List.length_cons, List.length_nil]; omega)); (case hfr => (intro k h1 h2; first | rfl | ((try simp only []); (repeat rw [upd_ne _ _ (by omega)]) <;> rfl) | (simp only [upd]; (repeat' split) <;> first | rfl | omega))); (case hr => omega); (case hrow => exact rfl); (case hq => (constructor <;> (try simp only [List.length_cons, List.length_nil]) <;> omega)); (case ht => exact rfl); (case' h => dsimp only [List.take, List.drop])) | (with_reducible first | refine W.seq ?_ | refine W.region ?_ | refine W.block ?_ | refine Seq.normal ?_ | refine jT ?_ | refine jy ?_) | ((with_reducible apply lu); (case hg => exact rfl); (case ho => exact rfl); (case hc => exact rfl); (case hf => exact rfl); (case hok => first | exact hCp | exact hH); (case hcal => first | assumption | kernel_rfl); (case hcl => (with_reducible simp only [List.map_cons, List.map_nil, List.forall_mem_cons, St.eval, List.getD_cons_zero, List.getD_cons_succ, sh, shA, shC]); (repeat' with_reducible first | exact Cln.b _ | exact bi | exact bu | exact kX | refine And.intro ?_ ?_ | refine Cln.agg ?_ | rw [List.forall_mem_cons])); (case' h => dsimp only [putL, List.set])) | ((with_reducible apply uk); (case hg => exact rfl); (case ho => exact rfl); (case hc => exact rfl); (case hf => exact rfl); (case hok => first | exact hCp | exact hH); (case hcal => first | assumption | kernel_rfl); (case hcl => (with_reducible simp only [List.map_cons, List.map_nil, List.forall_mem_cons, St.eval, List.getD_cons_zero, List.getD_cons_succ]); (repeat' with_reducible first | exact Cln.b _ | exact bi | exact bu | exact kX | refine And.intro ?_ ?_ | refine Cln.agg ?_ | rw [List.forall_mem_cons])); (case hfree => (intro q hq; simp only [List.length_cons, List.length_nil] at hq; first | (simp [upd]; (try omega); done) | ((try simp only []); (repeat rw [upd_ne _ _ (by omega)]) <;> rfl) | (simp only [upd]; (repeat' split) <;> first | rfl | omega))); (case hgo => simp [GOk, AOk, HOk.b, HOk.ref]); (case hgr => first | (simp [HOk.b]; done) | (repeat' first | exact iU | exact jX | exact iV | refine List.forall_mem_cons.2 ⟨?_, ?_⟩)); (case' h => dsimp only [put, List.set])) | ((with_reducible refine jU ?_ (fun K' hK' => ?_)); exact rfl) | ((with_reducible refine mg ?_ ?_ ?_ (fun K' hA' => ?_)); exact rfl; exact rfl; exact rfl) | ((with_reducible refine hA'.1 _ ?_); clear hA'; dsimp only [putL, List.set]) | ((with_reducible refine hK' _ _ ?_); clear hK'; dsimp only [put, List.set]) | (with_reducible first | refine And.intro ?_ ?_) | ((with_reducible first | show (_ : Int) < _ | show (_ : Int) ≤ _ | show (_ : Int) ≠ _ | show (_ : Nat) < _ | show (_ : Nat) ≤ _ | show (_ : Nat) ≠ _); omega) | (simp only [aop, oC, qW, List.length_map, Bool.and_true, St.eval, List.getD_cons_zero, List.getD_cons_succ, aBin, binI, iy, eH, fJ, jP, kF, lH, cellsOf, storable, storeL, upd, addU, sh, shA, shC, aH, bg, Nat.mul_one, List.map_cons, List.map_nil, List.length_cons, List.length_nil, List.drop_zero, List.take_succ_cons, List.take_zero, List.set_cons_zero, List.set_cons_succ, List.all_cons, List.all_nil, if_true, if_false, true_and, Nat.reduceAdd, Nat.reduceMul, Nat.reduceEqDiff, Nat.reduceLT, Nat.reduceLeDiff, Int.toNat_zero, Int.reduceToNat, Value.cells, Value.oneCell', Nat.zero_add, Nat.add_zero, List.length_set, zg, Hw, se22, ti22, ti33, ti35, ti9]; (all_goals fail_if_success show False))
  refine W.loop (fun x : Nat × List ByteArray => ⟨[.any, vI T, .ptr 0 0, .any, .ptr 1 0, .ptr 2 0, vI x.1, .any, .any, .any, .any, .any, .any, .any, .any, .any, .any, .any, .any, .any, .any, .any, .any, .any, .any, .any, .any, .any, .any, .any, .any, .any, .any, .any, .any, .any, .any, .any, .any, .any, .any, .any, .any, .any, .any, .any, .any, .any, .any, .any, .any, .any, .any, .any, .any], aZ [(0, 35, [.val s.disk.cells.length (s.disk.cells.map vS), .val s.disk.waits.length (s.disk.waits.flatMap cWt), vI s.disk.room, vI s.disk.left, vI s.turn, vI s.tries, vI s.next, .val s.pages.length (s.pages.map vS)]), (1, 35, [.b (.slice none 0 0), .b (.slice none 0 0), vI 0, vI 0, vI 0, vI 0, vI 0, .b (.slice none 0 0)]), (2, 33, [.ref 3 0 42, .ref 4 0 s.disk.waits.length, vI s.disk.room, vI s.disk.left]), (3, 9, x.2.map vS), (4, 110, s.disk.waits.flatMap cWt)]⟩)
    (fun x => x.1 ≤ 20 ∧ TurnI s T x.1 0 x.2) (fun x => 20 - x.1) (0, HC) ?wk0 ⟨Nat.zero_le _, hst⟩ (fun x hx => ?_)
  case wk0 =>
    rw [hrow0]
    exact Weak.intro [⟨16384, 0, 35, [.val s.disk.cells.length (s.disk.cells.map vS), .val s.disk.waits.length (s.disk.waits.flatMap cWt), vI s.disk.room, vI s.disk.left, vI s.turn, vI s.tries, vI s.next, .val s.pages.length (s.pages.map vS)]⟩, ⟨16400, 1, 35, [.b (.slice none 0 0), .b (.slice none 0 0), vI 0, vI 0, vI 0, vI 0, vI 0, .b (.slice none 0 0)]⟩, ⟨32816, 2, 33, [.ref 3 0 42, .ref 4 0 s.disk.waits.length, vI s.disk.room, vI s.disk.left]⟩, ⟨32800, 3, 9, (HC.map vS)⟩, ⟨32801, 4, 110, (s.disk.waits.flatMap cWt)⟩] (by simp) (by simp) (by intro e he; simp only [List.mem_cons, List.not_mem_nil, or_false] at he; rcases he with rfl | rfl | rfl | rfl | rfl <;> refine ⟨_, by simp only [upd, if_true, if_false, Nat.reduceEqDiff]; rfl, ?_⟩ <;> first | (simp [All2, vwC, kap, ax, aU, bu, hlen]; done) | (refine bC ?_; first | exact bn | exact bJ | exact flat_nil | (repeat' with_reducible first | exact flat_nil | exact dE | exact bf | exact bD | refine Flat.cons ?_ ?_); done)) rfl (by simp [All2, vw, vwA, vwC, kap, ax]) (fun _ h => h.elim)
  obtain ⟨i, X⟩ := x
  obtain ⟨hi, hI⟩ := hx
  dsimp only at hi hI ⊢
  have hXl := hI.len
  have hix : ((2 : Int) + (i : Int)).toNat = 2 + i := by omega
  have hdc := lD (i : Int) (by omega)
  repeat' first | ((with_reducible apply lJ.mk); (case hg => exact rfl); (case hst => (intro m2 hm2 K' hK'; simp only [aop, List.length_map, Bool.and_true, St.eval, List.getD_cons_zero, List.getD_cons_succ, jP, cellsOf, storable, storeL, List.map_cons, List.map_nil, List.length_cons, List.length_nil, List.all_cons, List.all_nil, true_and, Value.cells, Value.oneCell', Nat.zero_add, ti9, hm2]; first | exact hK' | (simp only [List.length_set]; (repeat' (with_reducible refine And.intro ?_ ?_)) <;> first | exact hK' | omega) | ((repeat' (with_reducible refine And.intro ?_ ?_)) <;> first | exact hK' | omega))); (case' hrest => dsimp only [putL, List.set])) | ((with_reducible apply W.drawS (id := 8) (n := 11) (q := 10) (r := 3)); (case hf => exact mixed); (case hB => kernel_rfl); (case hs => (simp only [List.length_cons, List.length_nil]; omega)); (case hfr => (intro k h1 h2; first | rfl | ((try simp only []); (repeat rw [upd_ne _ _ (by omega)]) <;> rfl) | (simp only [upd]; (repeat' split) <;> first | rfl | omega))); (case hr => omega); (case hrow => exact rfl); (case hq => (constructor <;> (try simp only [List.length_cons, List.length_nil]) <;> omega)); (case ht => exact rfl); (case' h => dsimp only [List.take, List.drop])) | (with_reducible first | refine W.seq ?_ | refine W.region ?_ | refine ui ?_ | refine xg ?_ | refine W.block ?_ | refine Seq.normal ?_ | refine Seq.exit ?_ | refine Blk.normal ?_ | refine Blk.same ?_ | refine Rnd.exit ?_ | refine jT ?_ | refine jy ?_ | refine qV ?_ ?_) | ((with_reducible apply lu); (case hg => exact rfl); (case ho => exact rfl); (case hc => exact rfl); (case hf => exact rfl); (case hok => first | exact hdc); (case hcal => first | assumption | kernel_rfl); (case hcl => (with_reducible simp only [List.map_cons, List.map_nil, List.forall_mem_cons, St.eval, List.getD_cons_zero, List.getD_cons_succ]); (repeat' with_reducible first | exact Cln.b _ | exact bi | exact bu | exact kX | refine And.intro ?_ ?_ | refine Cln.agg ?_ | rw [List.forall_mem_cons])); (case' h => dsimp only [putL, List.set])) | ((with_reducible refine jU ?_ (fun K' hK' => ?_)); exact rfl) | ((with_reducible refine mg ?_ ?_ ?_ (fun K' hA' => ?_)); exact rfl; exact rfl; exact rfl) | ((with_reducible refine hA'.1 _ ?_); clear hA'; dsimp only [putL, List.set]) | ((with_reducible refine hK' _ _ ?_); clear hK'; dsimp only [put, List.set]) | ((with_reducible apply qm); (case hc => exact rfl); (case' h2 => (intro hc; replace hc := of_decide_eq_false hc)); (case' h1 => (intro hc; replace hc := of_decide_eq_true hc)); all_goals try (exfalso; first | omega | exact hc rfl | exact hc trivial | exact Bool.noConfusion hc)) | (with_reducible first | refine And.intro ?_ ?_) | ((with_reducible first | show (_ : Int) < _ | show (_ : Int) ≤ _ | show (_ : Int) ≠ _ | show (_ : Nat) < _ | show (_ : Nat) ≤ _ | show (_ : Nat) ≠ _); omega) | (simp only [aop, aZ, St.eval, List.getD_cons_zero, List.getD_cons_succ, aBin, binI, iy, eH, kF, lH, upd, addU, Int.toNat_natCast, Nat.mul_one, List.length_cons, List.length_nil, List.drop_zero, List.drop_succ_cons, if_true, if_false, true_and, Nat.reduceAdd, Nat.reduceEqDiff, Nat.reduceLT, Nat.zero_add, Nat.add_zero, hix, zg, DL, se22, ti22, ti9]; (all_goals fail_if_success show False))
  · refine Rnd.normal (i + 1, X.set (2 + i) (cellAt s.pages i)) ⟨by dsimp only; omega, hI.step (by omega)⟩ (by dsimp only; omega) ?_
    rw [af (x := (i : Int) + 1) (by omega) (by omega)]
    rw [show (X.map vS).set (2 + i) (.b (.string (s.pages.getD i ByteArray.empty))) = (X.set (2 + i) (cellAt s.pages i)).map vS from dm]
    generalize X.set (2 + i) (cellAt s.pages i) = X'
    exact Weak.intro [⟨0, 0, 35, [.val s.disk.cells.length (s.disk.cells.map vS), .val s.disk.waits.length (s.disk.waits.flatMap cWt), vI s.disk.room, vI s.disk.left, vI s.turn, vI s.tries, vI s.next, .val s.pages.length (s.pages.map vS)]⟩, ⟨1, 1, 35, [.b (.slice none 0 0), .b (.slice none 0 0), vI 0, vI 0, vI 0, vI 0, vI 0, .b (.slice none 0 0)]⟩, ⟨2, 2, 33, [.ref 3 0 42, .ref 4 0 s.disk.waits.length, vI s.disk.room, vI s.disk.left]⟩, ⟨3, 3, 9, (X'.map vS)⟩, ⟨4, 4, 110, (s.disk.waits.flatMap cWt)⟩] (by simp) (by simp) (by intro e he; simp only [List.mem_cons, List.not_mem_nil, or_false] at he; rcases he with rfl | rfl | rfl | rfl | rfl <;> refine ⟨_, by simp only [upd, if_true, if_false, Nat.reduceEqDiff]; rfl, ?_⟩ <;> first | (simp [All2, vwC, kap, ax, aU, bu]; done) | (refine bC ?_; first | exact bn | exact bJ | exact flat_nil | (repeat' with_reducible first | exact flat_nil | exact dE | exact bf | exact bD | refine Flat.cons ?_ ?_); done)) rfl (by simp [All2, vw, vwA, vwC, kap, ax]) (fun _ h => h.elim)
  obtain rfl : i = 20 := by omega
  refine W.loop (fun x : Nat × List ByteArray => ⟨[.any, vI T, .ptr 0 0, .any, .ptr 1 0, .ptr 2 0, .any, vI x.1, .any, .any, .any, .any, .any, .any, .any, .any, .any, .any, .any, .any, .any, .any, .any, .any, .any, .any, .any, .any, .any, .any, .any, .any, .any, .any, .any, .any, .any, .any, .any, .any, .any, .any, .any, .any, .any, .any, .any, .any, .any, .any, .any, .any, .any, .any, .any], aZ [(0, 35, [.val s.disk.cells.length (s.disk.cells.map vS), .val s.disk.waits.length (s.disk.waits.flatMap cWt), vI s.disk.room, vI s.disk.left, vI s.turn, vI s.tries, vI s.next, .val s.pages.length (s.pages.map vS)]), (1, 35, [.b (.slice none 0 0), .b (.slice none 0 0), vI 0, vI 0, vI 0, vI 0, vI 0, .b (.slice none 0 0)]), (2, 33, [.ref 3 0 42, .ref 4 0 s.disk.waits.length, vI s.disk.room, vI s.disk.left]), (3, 9, x.2.map vS), (4, 110, s.disk.waits.flatMap cWt)]⟩)
    (fun x => x.1 ≤ 20 ∧ TurnI s T 20 x.1 x.2) (fun x => 20 - x.1) (0, X) ?wk1 ⟨Nat.zero_le _, hI⟩ (fun x hx => ?_)
  case wk1 => exact Weak.intro [⟨0, 0, 35, [.val s.disk.cells.length (s.disk.cells.map vS), .val s.disk.waits.length (s.disk.waits.flatMap cWt), vI s.disk.room, vI s.disk.left, vI s.turn, vI s.tries, vI s.next, .val s.pages.length (s.pages.map vS)]⟩, ⟨1, 1, 35, [.b (.slice none 0 0), .b (.slice none 0 0), vI 0, vI 0, vI 0, vI 0, vI 0, .b (.slice none 0 0)]⟩, ⟨2, 2, 33, [.ref 3 0 42, .ref 4 0 s.disk.waits.length, vI s.disk.room, vI s.disk.left]⟩, ⟨3, 3, 9, (X.map vS)⟩, ⟨4, 4, 110, (s.disk.waits.flatMap cWt)⟩] (by simp) (by simp) (by intro e he; simp only [List.mem_cons, List.not_mem_nil, or_false] at he; rcases he with rfl | rfl | rfl | rfl | rfl <;> refine ⟨_, by simp only [upd, if_true, if_false, Nat.reduceEqDiff]; rfl, ?_⟩ <;> first | (simp [All2, vwC, kap, ax, aU, bu]; done) | (refine bC ?_; first | exact bn | exact bJ | exact flat_nil | (repeat' with_reducible first | exact flat_nil | exact dE | exact bf | exact bD | refine Flat.cons ?_ ?_); done)) rfl (by simp [All2, vw, vwA, vwC, kap, ax]) (fun _ h => h.elim)
  obtain ⟨m, Y⟩ := x
  obtain ⟨hm2, hJ⟩ := hx
  dsimp only at hm2 hJ ⊢
  have hYl := hJ.len
  have hiy : ((22 : Int) + (m : Int)).toNat = 22 + m := by omega
  have hlc := mJ (m : Int) (by omega)
  by_cases h20 : m < 20
  · repeat' first | ((with_reducible apply lJ.mk); (case hg => exact rfl); (case hst => (intro m2 hm2 K' hK'; simp only [aop, List.length_map, Bool.and_true, St.eval, List.getD_cons_zero, List.getD_cons_succ, jP, cellsOf, storable, storeL, List.map_cons, List.map_nil, List.length_cons, List.length_nil, List.all_cons, List.all_nil, true_and, Value.cells, Value.oneCell', Nat.zero_add, ti9, hm2]; first | exact hK' | (simp only [List.length_set]; (repeat' (with_reducible refine And.intro ?_ ?_)) <;> first | exact hK' | omega) | ((repeat' (with_reducible refine And.intro ?_ ?_)) <;> first | exact hK' | omega))); (case' hrest => dsimp only [putL, List.set])) | ((with_reducible apply W.drawS (id := 12) (n := 6) (q := 5) (r := 3)); (case hf => exact mixed); (case hB => kernel_rfl); (case hs => (simp only [List.length_cons, List.length_nil]; omega)); (case hfr => (intro k h1 h2; first | rfl | ((try simp only []); (repeat rw [upd_ne _ _ (by omega)]) <;> rfl) | (simp only [upd]; (repeat' split) <;> first | rfl | omega))); (case hr => omega); (case hrow => exact rfl); (case hq => (constructor <;> (try simp only [List.length_cons, List.length_nil]) <;> omega)); (case ht => exact rfl); (case' h => dsimp only [List.take, List.drop])) | (with_reducible first | refine W.seq ?_ | refine W.region ?_ | refine ui ?_ | refine W.block ?_ | refine Seq.normal ?_ | refine Blk.normal ?_ | refine jT ?_ | refine jy ?_) | ((with_reducible apply lu); (case hg => exact rfl); (case ho => exact rfl); (case hc => exact rfl); (case hf => exact rfl); (case hok => first | exact hlc); (case hcal => first | assumption | kernel_rfl); (case hcl => (with_reducible simp only [List.map_cons, List.map_nil, List.forall_mem_cons, St.eval, List.getD_cons_zero, List.getD_cons_succ]); (repeat' with_reducible first | exact Cln.b _ | exact bi | exact bu | exact kX | refine And.intro ?_ ?_ | refine Cln.agg ?_ | rw [List.forall_mem_cons])); (case' h => dsimp only [putL, List.set])) | ((with_reducible refine jU ?_ (fun K' hK' => ?_)); exact rfl) | ((with_reducible refine mg ?_ ?_ ?_ (fun K' hA' => ?_)); exact rfl; exact rfl; exact rfl) | ((with_reducible refine hA'.1 _ ?_); clear hA'; dsimp only [putL, List.set]) | ((with_reducible refine hK' _ _ ?_); clear hK'; dsimp only [put, List.set]) | ((with_reducible apply qm); (case hc => exact rfl); (case' h2 => (intro hc; replace hc := of_decide_eq_false hc)); (case' h1 => (intro hc; replace hc := of_decide_eq_true hc)); all_goals try (exfalso; first | omega | exact hc rfl | exact hc trivial | exact Bool.noConfusion hc)) | (with_reducible first | refine And.intro ?_ ?_) | ((with_reducible first | show (_ : Int) < _ | show (_ : Int) ≤ _ | show (_ : Int) ≠ _ | show (_ : Nat) < _ | show (_ : Nat) ≤ _ | show (_ : Nat) ≠ _); omega) | (simp only [aop, aZ, St.eval, List.getD_cons_zero, List.getD_cons_succ, aBin, binI, iy, eH, kF, lH, upd, addU, Nat.mul_one, List.length_cons, List.length_nil, List.drop_zero, if_true, if_false, true_and, Nat.reduceAdd, Nat.reduceEqDiff, Nat.reduceLT, Nat.zero_add, Nat.add_zero, hiy, zg, se22, ti22]; (all_goals fail_if_success show False))
    refine Rnd.normal (m + 1, Y.set (22 + m) ByteArray.empty) ⟨by dsimp only; omega, hJ.clear (by omega)⟩ (by dsimp only; omega) ?_
    rw [af (x := (m : Int) + 1) (by omega) (by omega), show (Y.map vS).set (22 + m) (.b (.string ⟨#[]⟩)) = (Y.set (22 + m) ByteArray.empty).map vS from dm]
    generalize Y.set (22 + m) ByteArray.empty = Y'
    exact Weak.intro [⟨0, 0, 35, [.val s.disk.cells.length (s.disk.cells.map vS), .val s.disk.waits.length (s.disk.waits.flatMap cWt), vI s.disk.room, vI s.disk.left, vI s.turn, vI s.tries, vI s.next, .val s.pages.length (s.pages.map vS)]⟩, ⟨1, 1, 35, [.b (.slice none 0 0), .b (.slice none 0 0), vI 0, vI 0, vI 0, vI 0, vI 0, .b (.slice none 0 0)]⟩, ⟨2, 2, 33, [.ref 3 0 42, .ref 4 0 s.disk.waits.length, vI s.disk.room, vI s.disk.left]⟩, ⟨3, 3, 9, (Y'.map vS)⟩, ⟨4, 4, 110, (s.disk.waits.flatMap cWt)⟩] (by simp) (by simp) (by intro e he; simp only [List.mem_cons, List.not_mem_nil, or_false] at he; rcases he with rfl | rfl | rfl | rfl | rfl <;> refine ⟨_, by simp only [upd, if_true, if_false, Nat.reduceEqDiff]; rfl, ?_⟩ <;> first | (simp [All2, vwC, kap, ax, aU, bu]; done) | (refine bC ?_; first | exact bn | exact bJ | exact flat_nil | (repeat' with_reducible first | exact flat_nil | exact dE | exact bf | exact bD | refine Flat.cons ?_ ?_); done)) rfl (by simp [All2, vw, vwA, vwC, kap, ax]) (fun _ h => h.elim)
  · obtain rfl : m = 20 := by omega
    have hY := hdone Y hJ
    rw [← hY] at hR
    rw [show PV.ref 3 0 42 = PV.ref 3 0 Y.length by rw [hYl]]
    repeat' first | (with_reducible first | refine W.seq ?_ | refine W.region ?_ | refine BB ?_ | refine xg ?_ | refine Seq.normal ?_ | refine Seq.exit ?_ | refine Blk.same ?_ | refine Rnd.exit ?_ | refine jT ?_) | ((with_reducible apply pI); (case hg => exact rfl); (case ho => exact rfl); (case hc => exact rfl); (case hf => exact rfl); (case hok => exact hR); (case hcal => first | assumption | kernel_rfl); (case hcl => (simp [All2, vw, vwA, vwC, upd, ax, dC, vS, St.eval]; done)); (case how => (constructor <;> first | rfl | (simp [ownC]; done))); (case hfree => (intro q hq; simp only [List.length_cons, List.length_nil] at hq; first | (simp [upd]; (try omega); done) | ((try simp only []); (repeat rw [upd_ne _ _ (by omega)]) <;> rfl) | (simp only [upd]; (repeat' split) <;> first | rfl | omega))); (case hgo => simp [GOk, AOk, HOk.b, HOk.ref]); (case hgr => first | (simp [HOk.b]; done) | (repeat' first | exact iU | exact jX | exact iV | refine List.forall_mem_cons.2 ⟨?_, ?_⟩)); (case' h => dsimp only [put, List.set])) | ((with_reducible refine jU ?_ (fun K' hK' => ?_)); exact rfl) | ((with_reducible refine hK' _ _ ?_); clear hK'; dsimp only [put, List.set]) | ((with_reducible apply qm); (case hc => exact rfl); (case' h2 => (intro hc; replace hc := of_decide_eq_false hc)); (case' h1 => (intro hc; replace hc := of_decide_eq_true hc)); all_goals try (exfalso; first | omega | exact hc rfl | exact hc trivial | exact Bool.noConfusion hc)) | ((with_reducible first | refine Ends.ret ?_ | refine Ends.normal ?_); simp only [aRes, show Tryz.f149.results.toList = [.cell 4 35] from rfl, oh, y9, oneOf, iy, fJ, List.getD_cons_zero, List.getD_cons_succ, upd, if_true, if_false, Nat.reduceEqDiff, List.drop_zero, List.take_succ_cons, List.take_zero, List.length_cons, List.length_nil, Nat.reduceAdd, true_and, Nat.reduceLeDiff, Nat.reduceLT, ti35]) | (simp only [aop, oC, qW, List.getElem?_cons_zero, List.getElem?_cons_succ, Bool.and_true, aZ, St.eval, List.getD_cons_zero, List.getD_cons_succ, aBin, binI, iy, fJ, jP, lh, cellsOf, storable, storeL, upd, sh, shA, shC, aH, bg, Nat.mul_one, List.map_cons, List.map_nil, List.length_cons, List.length_nil, List.drop_zero, List.take_succ_cons, List.take_zero, List.set_cons_zero, List.set_cons_succ, List.all_cons, List.all_nil, if_true, if_false, true_and, Nat.reduceAdd, Nat.reduceMul, Nat.reduceEqDiff, Nat.reduceLT, Nat.reduceLeDiff, Value.oneCell', Nat.zero_add, Nat.add_zero, ti33, ti35]; (all_goals fail_if_success show False))
    all_goals
      try simp only [aJ]
      exact Weak.intro [⟨229392, 0, 9, (S.disk.cells.map vS)⟩, ⟨229393, 1, 110, (S.disk.waits.flatMap cWt)⟩, ⟨229394, 2, 9, (S.pages.map vS)⟩] (by simp) (by simp) (by intro e he; simp only [List.mem_cons, List.not_mem_nil, or_false] at he; rcases he with rfl | rfl | rfl <;> refine ⟨_, by simp only [upd, if_true, if_false, Nat.reduceEqDiff]; rfl, ?_⟩ <;> first | (simp [kap]; done) | (refine bC ?_; first | exact bn | exact bJ | exact flat_nil | (repeat' with_reducible first | exact flat_nil | exact dE | exact bf | exact bD | refine Flat.cons ?_ ?_); done)) rfl (by simp [All2, vw, vwA, vwC, kap, ax]) (fun _ h => h.elim)
end Go.Proofs.YtknciobaifdafaaGreatDoor.T
