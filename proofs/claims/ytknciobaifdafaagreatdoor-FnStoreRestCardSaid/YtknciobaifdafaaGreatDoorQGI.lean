/- The draws of the store, walked, part 18: drawn disks. -/
import Derived.Test.YtknciobaifdafaaGreatDoorQEZ
import Derived.Test.YtknciobaifdafaaGreatDoorQGE
import Derived.Test.YtknciobaifdafaaGreatDoorQV
set_option linter.unusedVariables false
set_option maxRecDepth 100000
set_option maxHeartbeats 4000000
set_option linter.unusedSimpArgs false
namespace Go.Proofs.YtknciobaifdafaaGreatDoor.T
open Go Go.Pv Go.Proofs.YtknciobaifdafaaGreatDoor.EF
abbrev vDkK (K : Nat) (d : Dk) : PV := .agg [.ref K 0 d.cells.length, .ref (K + 1) 0 d.waits.length, vI d.room, vI d.left]
abbrev AU (d : Dk) : List (TypeId × List PV) := [(9, d.cells.map vS), (110, d.waits.flatMap cWt)]
theorem G5 : Ok Tryz.prog 163 [] (.agg [.ref 0 0 jZ.cells.length, .b (.slice none 0 0), vI (-1), vI (-1)]) [(9, jZ.cells.map vS)] := by
  refine stO Tryz.func163 [.cell 0 33] 3 rfl rfl rfl ?_
  repeat' first | refine sS ?_ | refine sO (fun K' hK' => ?_) | (refine sE hK' ?_; clear hK') | refine sU ?_ ?_ | exact sX | ((with_reducible first | refine En.ret ?_ | refine En.normal ?_); simp only [go_sem, Nat.reduceAdd, Nat.reduceEqDiff, Nat.reduceLT, Nat.reduceLeDiff]) | (simp only [go_sem, Nat.reduceAdd, Nat.reduceMul, Nat.reduceEqDiff, Nat.reduceLT, Nat.reduceLeDiff, Int.reduceToNat]; (all_goals fail_if_success show False)) | fail
  have e : jZ.cells.length = 42 := rfl
  exact Weak.intro [⟨32768, 0, 9, (jZ.cells.map vS)⟩] (by simp) (by simp) (by intro e he; simp only [List.mem_cons, List.not_mem_nil, or_false] at he; rcases he with rfl <;> refine ⟨_, by simp only [upd, if_true, if_false, Nat.reduceEqDiff]; rfl, ?_⟩ <;> first | (simp [kap]; done) | (refine bC ?_; first | exact bn | exact iq | exact bJ | exact flat_nil | (repeat' with_reducible first | exact flat_nil | exact dE | exact bf | exact jm | exact bD | refine Flat.cons ?_ ?_); done)) rfl (by simp [All2, vw, vwA, vwC, kap, ax, e]) (fun _ h => h.elim)
theorem yu (d : Dk) (cell : Int) (text : ByteArray) (hd : DkB d) (hl : ¬ d.left = 0) (hok : ¬ (wtOk ⟨cell, text⟩ = false ∨ d.room = 0 ∨ 100 ≤ d.waits.length)) : Ok Tryz.prog 130 [vDk d, vI cell, vS text] (.tup [vDkK 0 (aO d cell text).1, vB true]) (AU (aO d cell text).1) := by
  have h1 : d.cells.length ≤ 2000000 := by have := hd.cells; omega
  have h2 : d.waits.length ≤ 2000000 := by have := hd.waits; omega
  have hC := ig d h1 h2
  have hW := xy ⟨cell, text⟩
  have hk : wtOk ⟨cell, text⟩ = true := by
    rcases Bool.eq_false_or_eq_true (wtOk ⟨cell, text⟩) with h | h
    · exact h
    · exact absurd (.inl h) hok
  have hrm : ¬ d.room = 0 := fun h => hok (.inr (.inl h))
  have hwl : ¬ 100 ≤ d.waits.length := fun h => hok (.inr (.inr h))
  rw [hk] at hW
  rw [iD hl hok]
  refine stO Tryz.func130 [.cell 6 33, .tmp 7] 51 rfl rfl rfl ?_
  repeat' first | refine sS ?_ | ((with_reducible show aC ..); first | refine cF rfl rfl rfl rfl hW ?_ | refine cF rfl rfl rfl rfl (yI _ (by have := hd.left; have := hd.room; omega)) ?_ | refine cR rfl rfl rfl rfl hC ?_) | refine sO (fun K' hK' => ?_) | (refine sI (fun hg => ?_) (fun hg K' hK' => ?_) <;> try exact sZ hg) | (refine sE hK' ?_; clear hK') | (refine sD (fun hc => ?_) (fun hc => ?_) <;> try exact sZ hc) | refine sU ?_ ?_ | exact sX | ((with_reducible first | refine En.ret ?_ | refine En.normal ?_); simp only [go_sem, Nat.reduceAdd, Nat.reduceMul, Nat.reduceEqDiff, Nat.reduceLT, Nat.reduceLeDiff]) | (simp only [go_sem, Nat.reduceAdd, Nat.reduceMul, Nat.reduceEqDiff, Nat.reduceLT, Nat.reduceLeDiff, Bool.not_true]; (all_goals fail_if_success show False)) | fail
  have e1 : (d.waits ++ [⟨cell, text⟩] : List Wt).length = d.waits.length + 1 := by simp
  have e2 : d.waits.flatMap cWt ++ [vI cell, vS text] = (d.waits ++ [⟨cell, text⟩] : List Wt).flatMap cWt := (wo d.waits ⟨cell, text⟩).symm
  dsimp only [vDkK, AU]
  rw [e1, e2]
  generalize (d.waits ++ [⟨cell, text⟩] : List Wt) = Ws at e1 ⊢
  exact kp [⟨114704, 0, 9, (d.cells.map vS)⟩, ⟨131136, 1, 110, (Ws.flatMap cWt)⟩]
theorem NE {n : Nat} {d : Dk} (h : DkX n d) (hn : n < 100) {c : Int} {x : ByteArray} (hc : 0 ≤ c ∧ c ≤ 41) (hx : TxB x) : ¬ (wtOk ⟨c, x⟩ = false ∨ d.room = 0 ∨ 100 ≤ d.waits.length) := by
  have hw := h.waits
  have hk : wtOk ⟨c, x⟩ = true := by
    unfold wtOk
    rw [Bool.and_eq_true]
    exact ⟨decide_eq_true hc, decide_eq_true (by have := hx.2; dsimp only; omega)⟩
  rw [hk, h.room]
  simp
  omega
abbrev rdZ : List PV := [.b (.slice none 0 0), .b (.slice none 0 0), vI 0, vI 0]
theorem QW (b : List Int) (p : Nat) (hb : ∀ q, q ≤ 1000000 → RdOk b q) (hp : p + 150 ≤ 1000000) : OkS Tryz.prog 136 [.ptr 0 0] [(123, cRd b p)] (fun i => i = 0) (vDkK 1 (fO b p).1) ((123, cRd b (fO b p).2) :: AU (fO b p).1) := by
  have hp6 := az (hb p (by omega)) (n := 6) (by omega)
  obtain ⟨n1, hn1⟩ : ∃ n1 : Nat, ae b p 6 = n1 := ⟨(ae b p 6).toNat, by omega⟩
  have hP1 : ∀ {mem : Mem}, mem 0 = .row 123 (cRd b p) → _ := fun {mem} hj => gB (mem := mem) (j := 0) b 6 hj (hb p (by omega))
  rw [hn1] at hP1
  have hX0 := JC
  obtain ⟨D1, hD1⟩ : ∃ D1, D1 = dkW1 b p := ⟨_, rfl⟩
  obtain ⟨d1a, d1b⟩ := JD (b := b) (p := p) hb (by omega)
  have hgo1 : dkGo (at1V b) b n1 jZ (p + 1) = D1 := by rw [hD1]; unfold dkW1; rw [hn1, Int.toNat_natCast]
  rw [← hD1] at d1a d1b
  have eV : fO b p = dkL b (dkW2 b D1) := by rw [hD1]; rfl
  rw [eV]
  have hN := G5
  obtain ⟨N0, hN0⟩ : ∃ N0, N0 = jZ := ⟨_, rfl⟩
  rw [← hN0] at hN hX0 hgo1
  have n0r := hX0.room
  have n0l := hX0.left
  have n0w : N0.waits = [] := by rw [hN0]; rfl
  have n0c := hX0.cells
  clear hN0 hD1 eV
  refine stS Tryz.func136 [.cell 2 33] 57 rfl rfl rfl ?_
  repeat' first | refine sS ?_ | ((with_reducible show aC ..); first | refine cM rfl rfl rfl rfl (hP1 (by simp only [upd]; rfl)) ?_ | refine cR rfl rfl rfl rfl hN ?_) | refine sO (fun K' hK' => ?_) | (refine sE hK' ?_; clear hK') | (simp only [go_sem, Nat.reduceAdd, Nat.reduceMul, Nat.reduceEqDiff, Nat.reduceLT, Nat.reduceLeDiff]; (all_goals fail_if_success show False)) | fail
  refine W.loop (fun x : Nat × Dk × Nat => match x.1 with
    | 0 => ⟨[.ptr 0 0, .any, .ptr 1 0, .ptr 2 0, vI 0, .any, .any, .any, .any, .any, .any, .any, .any, .any, .any, .any, .any, .any, .any, .any, .any, .any, .any, .any, .any, .any, .any, .any, .any, .any, .any, .any, .any, .any, .any, .any, .any, .any, .any, .any, .any, .any, .any, .any, .any, .any, .any, .any, .any, .any, .any, .any, .any, .any, .any, .any, .any], aZ [(0, 123, cRd b x.2.2), (1, 33, rdZ), (2, 33, [.ref 3 0 x.2.1.cells.length, .ref 4 0 x.2.1.waits.length, vI x.2.1.room, vI x.2.1.left]), (3, 9, x.2.1.cells.map vS), (4, 110, x.2.1.waits.flatMap cWt)]⟩
    | n + 1 => ⟨[.ptr 0 0, .any, .ptr 1 0, .ptr 2 0, vI ((n + 1 : Nat) : Int), .any, .any, .any, .any, .any, .any, .any, .any, .any, .any, .any, .any, .any, .any, .any, .any, .any, .any, .any, .any, .any, .any, .any, .any, .any, .any, .any, .any, .any, .any, .any, .any, .any, .any, .any, .any, .any, .any, .any, .any, .any, .any, .any, .any, .any, .any, .any, .any, .any, .any, .any, .any], aZ [(0, 123, cRd b x.2.2), (1, 33, rdZ), (2, 33, [.val x.2.1.cells.length (x.2.1.cells.map vS), .val x.2.1.waits.length (x.2.1.waits.flatMap cWt), vI x.2.1.room, vI x.2.1.left])]⟩)
    (fun x => (∃ m, m + x.1 ≤ 5 ∧ DkX m x.2.1) ∧ x.2.2 + 3 * x.1 ≤ p + 20 ∧ dkGo (at1V b) b x.1 x.2.1 x.2.2 = D1) (fun x => x.1) (n1, N0, p + 1) ?wk0 ⟨⟨0, by dsimp only; omega, hX0⟩, by dsimp only; omega, hgo1⟩ (fun x hx => ?_)
  case wk0 =>
    rcases n1 with _ | n1
    · refine Weak.trans (Weak.none (k := 7) (t := 110) (by simp [upd])) ?_
      dsimp only
      rw [n0w, n0r, n0l]
      exact kp [⟨0, 0, 123, (cRd b (p + 1))⟩, ⟨16384, 1, 33, rdZ⟩, ⟨32784, 2, 33, [.ref 3 0 N0.cells.length, .ref 4 0 0, vI (-1), vI (-1)]⟩, ⟨32768, 3, 9, (N0.cells.map vS)⟩, ⟨7, 4, 110, []⟩]
    · dsimp only
      rw [n0w, n0r, n0l]
      exact kp [⟨0, 0, 123, (cRd b (p + 1))⟩, ⟨16384, 1, 33, rdZ⟩, ⟨32784, 2, 33, [.val N0.cells.length (N0.cells.map vS), .val 0 [], vI (-1), vI (-1)]⟩]
  obtain ⟨n, d, q⟩ := x
  dsimp only at hx ⊢
  obtain ⟨⟨m, hm5, hX⟩, hq, hgo⟩ := hx
  rcases n with _ | n
  · obtain rfl : D1 = (d, q) := hgo.symm
    dsimp only at d1a d1b ⊢
    have hp2 := az (hb (q + 1) (by omega)) (n := 6) (by omega)
    obtain ⟨n2, hn2⟩ : ∃ n2 : Nat, ae b (q + 1) 6 = n2 := ⟨(ae b (q + 1) 6).toNat, by omega⟩
    have hPa : ∀ {mem : Mem}, mem 0 = .row 123 (cRd b q) → _ := fun {mem} hj => gB (mem := mem) (j := 0) b 2 hj (hb q (by omega))
    have hPb : ∀ {mem : Mem}, mem 0 = .row 123 (cRd b (q + 1)) → _ := fun {mem} hj => gB (mem := mem) (j := 0) b 6 hj (hb (q + 1) (by omega))
    rw [hn2] at hPb
    obtain ⟨d2, hd2⟩ : ∃ d2, d2 = dk2V b (d, q) := ⟨_, rfl⟩
    have hX2 : DkX 5 d2 := by rw [hd2]; exact JE (D := (d, q)) d1a
    obtain ⟨G, hG⟩ : ∃ G, G = dkW2 b (d, q) := ⟨_, rfl⟩
    have hgo2 : dkGo (at2V b) b n2 d2 (q + 2) = G := by rw [hG, hd2]; unfold dkW2; dsimp only; rw [hn2, Int.toNat_natCast]
    obtain ⟨g2a, g2b⟩ := JF (b := b) (D := (d, q)) hb (by dsimp only; omega) d1a
    rw [← hG] at g2a g2b ⊢
    dsimp only at g2b
    have hl0 : ¬ d.left = 0 := by rw [hX.left]; decide
    have e1 : ae b q 2 = 0 → d2 = aV d := fun h => by rw [hd2]; unfold dk2V; rw [if_pos h]
    have e2 : ¬ ae b q 2 = 0 → d2 = d := fun h => by rw [hd2]; unfold dk2V; rw [if_neg h]
    clear hd2 hG
    have hSy : ae b q 2 = 0 → Ok Tryz.prog 132 [vDk d] (.agg [.ref 0 0 d2.cells.length, .b (.slice none 0 0), vI d2.room, vI d2.left]) [(9, d2.cells.map vS)] := fun h => by
      rw [e1 h]
      exact Ar d (hX.b (by omega)) hl0
    have hw2 : ae b q 2 = 0 → d2.waits = [] := fun h => by
      rw [e1 h]
      unfold aV
      rw [if_neg hl0]
    generalize ae b q 2 = c at hPa e1 e2 hSy hw2
    repeat' first | refine sS ?_ | ((with_reducible show aC ..); first | refine cM rfl rfl rfl rfl (hPa (by simp only [upd]; rfl)) ?_ | refine cM rfl rfl rfl rfl (hPb (by simp only [upd]; rfl)) ?_ | refine cW rfl rfl rfl rfl (hSy (by assumption)) ?_) | refine sO (fun K' hK' => ?_) | (refine sE hK' ?_; clear hK') | (refine sD (fun hc => ?_) (fun hc => ?_) <;> try exact sZ hc) | (simp only [go_sem, Nat.reduceAdd, Nat.reduceMul, Nat.reduceEqDiff, Nat.reduceLT, Nat.reduceLeDiff]; (all_goals fail_if_success show False)) | fail
    refine Hu (t := ⟨[.ptr 0 0, .any, .ptr 1 0, .ptr 2 0, .any, vI n2, .any, .any, .any, .any, .any, .any, .any, .any, .any, .any, .any, .any, .any, .any, .any, .any, .any, .any, .any, .any, .any, .any, .any, .any, .any, .any, .any, .any, .any, .any, .any, .any, .any, .any, .any, .any, .any, .any, .any, .any, .any, .any, .any, .any, .any, .any, .any, .any, .any, .any, .any], aZ [(0, 123, cRd b (q + 2)), (1, 33, rdZ), (2, 33, [.ref 3 0 d2.cells.length, .ref 4 0 d2.waits.length, vI d2.room, vI d2.left]), (3, 9, d2.cells.map vS), (4, 110, d2.waits.flatMap cWt)]⟩) ?wkA ?_
    case wkA =>
      refine Weak.trans (Weak.none (k := 7) (t := 110) (by simp [upd])) ?_
      rw [hw2 (by assumption)]
      exact kp [⟨0, 0, 123, (cRd b (q + 2))⟩, ⟨1, 1, 33, rdZ⟩, ⟨2, 2, 33, [.ref 3 0 d2.cells.length, .ref 4 0 0, vI d2.room, vI d2.left]⟩, ⟨131088, 3, 9, (d2.cells.map vS)⟩, ⟨7, 4, 110, []⟩]
    rotate_left
    refine Hu (t := ⟨[.ptr 0 0, .any, .ptr 1 0, .ptr 2 0, .any, vI n2, .any, .any, .any, .any, .any, .any, .any, .any, .any, .any, .any, .any, .any, .any, .any, .any, .any, .any, .any, .any, .any, .any, .any, .any, .any, .any, .any, .any, .any, .any, .any, .any, .any, .any, .any, .any, .any, .any, .any, .any, .any, .any, .any, .any, .any, .any, .any, .any, .any, .any, .any], aZ [(0, 123, cRd b (q + 2)), (1, 33, rdZ), (2, 33, [.ref 3 0 d2.cells.length, .ref 4 0 d2.waits.length, vI d2.room, vI d2.left]), (3, 9, d2.cells.map vS), (4, 110, d2.waits.flatMap cWt)]⟩) ?wkB ?_
    case wkB =>
      rw [e2 (by assumption)]
      exact kp [⟨0, 0, 123, (cRd b (q + 2))⟩, ⟨1, 1, 33, rdZ⟩, ⟨2, 2, 33, [.ref 3 0 d.cells.length, .ref 4 0 d.waits.length, vI d.room, vI d.left]⟩, ⟨3, 3, 9, (d.cells.map vS)⟩, ⟨4, 4, 110, (d.waits.flatMap cWt)⟩]
    all_goals
      refine W.loop (fun x : Nat × Dk × Nat => match x.1 with
        | 0 => ⟨[.ptr 0 0, .any, .ptr 1 0, .ptr 2 0, .any, vI 0, .any, .any, .any, .any, .any, .any, .any, .any, .any, .any, .any, .any, .any, .any, .any, .any, .any, .any, .any, .any, .any, .any, .any, .any, .any, .any, .any, .any, .any, .any, .any, .any, .any, .any, .any, .any, .any, .any, .any, .any, .any, .any, .any, .any, .any, .any, .any, .any, .any, .any, .any], aZ [(0, 123, cRd b x.2.2), (1, 33, rdZ), (2, 33, [.ref 3 0 x.2.1.cells.length, .ref 4 0 x.2.1.waits.length, vI x.2.1.room, vI x.2.1.left]), (3, 9, x.2.1.cells.map vS), (4, 110, x.2.1.waits.flatMap cWt)]⟩
        | n + 1 => ⟨[.ptr 0 0, .any, .ptr 1 0, .ptr 2 0, .any, vI ((n + 1 : Nat) : Int), .any, .any, .any, .any, .any, .any, .any, .any, .any, .any, .any, .any, .any, .any, .any, .any, .any, .any, .any, .any, .any, .any, .any, .any, .any, .any, .any, .any, .any, .any, .any, .any, .any, .any, .any, .any, .any, .any, .any, .any, .any, .any, .any, .any, .any, .any, .any, .any, .any, .any, .any], aZ [(0, 123, cRd b x.2.2), (1, 33, rdZ), (2, 33, [.val x.2.1.cells.length (x.2.1.cells.map vS), .val x.2.1.waits.length (x.2.1.waits.flatMap cWt), vI x.2.1.room, vI x.2.1.left])]⟩)
        (fun x => (∃ m, m + x.1 ≤ 10 ∧ DkX m x.2.1) ∧ x.2.2 + 3 * x.1 ≤ p + 50 ∧ dkGo (at2V b) b x.1 x.2.1 x.2.2 = G) (fun x => x.1) (n2, d2, q + 2) ?wk1 ⟨⟨5, by dsimp only; omega, hX2⟩, by dsimp only; omega, hgo2⟩ (fun x hx => ?_)
      case wk1 =>
        rcases n2 with _ | n2
        · dsimp only
          exact kp [⟨0, 0, 123, (cRd b (q + 2))⟩, ⟨1, 1, 33, rdZ⟩, ⟨2, 2, 33, [.ref 3 0 d2.cells.length, .ref 4 0 d2.waits.length, vI d2.room, vI d2.left]⟩, ⟨3, 3, 9, (d2.cells.map vS)⟩, ⟨4, 4, 110, (d2.waits.flatMap cWt)⟩]
        · dsimp only
          exact kp [⟨0, 0, 123, (cRd b (q + 2))⟩, ⟨1, 1, 33, rdZ⟩, ⟨2, 2, 33, [.val d2.cells.length (d2.cells.map vS), .val d2.waits.length (d2.waits.flatMap cWt), vI d2.room, vI d2.left]⟩]
      obtain ⟨n, y, u⟩ := x
      dsimp only at hx ⊢
      obtain ⟨⟨m2, hm10, hY⟩, hu, hgu⟩ := hx
      rcases n with _ | n
      · obtain rfl : G = (y, u) := hgu.symm
        dsimp only at g2a g2b
        have hOr : ∀ {mem : Mem} {k : Nat}, mem 0 = .row 123 (cRd b u) → mem k = .row 3 (rmL.map vI) → _ := fun {mem k} hj hk => oneR (mem := mem) (j := 0) (k := k) b rmL hj hk (hb u (by omega)) (by decide) (by decide)
        have hOl : ∀ {mem : Mem} {k : Nat}, mem 0 = .row 123 (cRd b (u + 1)) → mem k = .row 3 (lfL.map vI) → _ := fun {mem k} hj hk => oneR (mem := mem) (j := 0) (k := k) b lfL hj hk (hb (u + 1) (by omega)) (by decide) (by decide)
        rw [show (rmL.length : Int) = 6 from rfl] at hOr
        rw [show (lfL.length : Int) = 6 from rfl] at hOl
        unfold dkL
        dsimp only
        generalize rmL.getD (ae b u 6).toNat 0 = r1 at hOr ⊢
        generalize lfL.getD (ae b (u + 1) 6).toNat 0 = l1 at hOl ⊢
        repeat' first | refine sS ?_ | ((with_reducible show aC ..); first | refine cM rfl rfl rfl rfl (hOr (by simp only [upd]; rfl) (by simp only [upd]; rfl)) ?_ | refine cM rfl rfl rfl rfl (hOl (by simp only [upd]; rfl) (by simp only [upd]; rfl)) ?_) | refine sO (fun K' hK' => ?_) | (refine sE hK' ?_; clear hK') | (refine sD (fun hc => ?_) (fun hc => ?_) <;> try exact sZ hc) | refine sU ?_ ?_ | exact sX | ((with_reducible first | refine En.ret ?_ | refine En.normal ?_); simp only [go_sem, Nat.reduceAdd, Nat.reduceEqDiff, Nat.reduceLT, Nat.reduceLeDiff]) | (simp only [go_sem, Nat.reduceAdd, Nat.reduceMul, Nat.reduceEqDiff, Nat.reduceLT, Nat.reduceLeDiff]; (all_goals fail_if_success show False)) | fail
        all_goals exact kp [⟨0, 0, 123, (cRd b (u + 2))⟩, ⟨3, 1, 9, (y.cells.map vS)⟩, ⟨4, 2, 110, (y.waits.flatMap cWt)⟩]
      · have hcm := az (hb (u + 1) (by omega)) (n := 5) (by omega)
        have hP : ∀ {m2 : Mem}, m2 0 = .row 123 (cRd b u) → _ := fun {m2} hj => gB (mem := m2) (j := 0) b 42 hj (hb u (by omega))
        have hO : ∀ {m2 : Mem} {k : Nat}, m2 0 = .row 123 (cRd b (u + 1)) → m2 k = .row 3 ((at2V b u).map vI) → _ := fun {m2 k} hj hk => oneR (mem := m2) (j := 0) (k := k) b (at2V b u) hj hk (hb (u + 1) (by omega)) (by show 0 < 5; omega) (by show 5 ≤ 1000; omega)
        have hT : ∀ {m2 : Mem}, m2 0 = .row 123 (cRd b (u + 2)) → _ := fun {m2} hj => Jy (mem := m2) (j := 0) b hj (hb (u + 2) (by omega))
        have hin := ND hb u (by omega) _ (getD_mem (l := at2V b u) (k := (ae b (u + 1) 5).toNat) (d := 0) (by show (ae b (u + 1) 5).toNat < 5; omega))
        have hgo' : dkGo (at2V b) b n (aO y ((at2V b u).getD (ae b (u + 1) 5).toNat 0) (jJ b (u + 2))).1 (u + 3) = G := hgu
        have htx := oM (hb (u + 2) (by omega))
        rw [show ((at2V b u).length : Int) = 5 from rfl] at hO
        generalize (at2V b u).getD (ae b (u + 1) 5).toNat 0 = c at hO hin hgo'
        generalize jJ b (u + 2) = x at hT htx hgo'
        have hW := hY.write (by omega) hin htx
        have hk := NE hY (by omega) hin htx
        have hl1 : ¬ y.left = 0 := by rw [hY.left]; decide
        have w1 : IntKind.i64.wrap (((n + 1 : Nat) : Int) - 1) = (n : Int) := by rw [af (by omega) (by omega)]; omega
        have hL1 := yu y c x (hY.b (by omega)) hl1 hk
        have hL2 := iL y c x (hY.b (by omega))
        rw [iD hl1 hk] at hL1 hL2 hW hgo'
        generalize hd' : (⟨y.cells, y.waits ++ [⟨c, x⟩], au y.room, au y.left⟩ : Dk) = d' at hL1 hL2 hW hgo'
        dsimp only at hL1 hL2 hW hgo'
        clear hd'
        rcases n with _ | n
        · repeat' first | ((with_reducible show dw _ _ _ _ _ _ _ _ _ _ _ _); first | refine sC rfl rfl rfl rfl (fun m2 hm2 => hT hm2) ?_ | refine sT 4 rfl rfl rfl rfl (List.mem_cons_self ..) (fun m2 hm2 hm3 => hO hm2 hm3) ?_ | refine sC rfl rfl rfl rfl (fun m2 hm2 => hP hm2) ?_) | refine sK ?_ | ((with_reducible show W _ _ (.region 11 _ _) _ _); refine dMS 0 [3, 5, 7] 9 12 2 ?_) | refine sS ?_ | refine rX ?_ | ((with_reducible show uC ..); refine uR rfl rfl rfl rfl hL1 ?_) | refine sO (fun K' hK' => ?_) | refine yA (fun K' hA' => ?_) | (refine sE hK' ?_; clear hK') | (refine sE hA' ?_; clear hA') | (refine sD (fun hc => ?_) (fun hc => ?_) <;> try exact sZ hc) | refine sU ?_ ?_ | exact sX | (simp only [go_sem, Nat.reduceAdd, Nat.reduceMul, Nat.reduceEqDiff, Nat.reduceLT, Nat.reduceLeDiff, w1]; (all_goals fail_if_success show False)) | fail
          refine Rnd.normal (0, d', u + 3) ⟨⟨m2 + 1, by dsimp only; omega, hW.1⟩, by dsimp only; omega, hgo'⟩ (by dsimp only; omega) ?_
          dsimp only
          exact kp [⟨0, 0, 123, (cRd b (u + 3))⟩, ⟨1, 1, 33, rdZ⟩, ⟨2, 2, 33, [.ref 3 0 d'.cells.length, .ref 4 0 d'.waits.length, vI d'.room, vI d'.left]⟩, ⟨196736, 3, 9, (d'.cells.map vS)⟩, ⟨196737, 4, 110, (d'.waits.flatMap cWt)⟩]
        · repeat' first | ((with_reducible show dw _ _ _ _ _ _ _ _ _ _ _ _); first | refine sC rfl rfl rfl rfl (fun m2 hm2 => hT hm2) ?_ | refine sT 4 rfl rfl rfl rfl (List.mem_cons_self ..) (fun m2 hm2 hm3 => hO hm2 hm3) ?_ | refine sC rfl rfl rfl rfl (fun m2 hm2 => hP hm2) ?_) | refine sK ?_ | ((with_reducible show W _ _ (.region 11 _ _) _ _); refine dMS 0 [3, 5, 7] 9 12 2 ?_) | refine sS ?_ | refine rX ?_ | ((with_reducible show uC ..); refine uR rfl rfl rfl rfl hL2 ?_) | refine sO (fun K' hK' => ?_) | refine yA (fun K' hA' => ?_) | (refine sE hK' ?_; clear hK') | (refine sE hA' ?_; clear hA') | (refine sD (fun hc => ?_) (fun hc => ?_) <;> try exact sZ hc) | refine sU ?_ ?_ | exact sX | (simp only [go_sem, Nat.reduceAdd, Nat.reduceMul, Nat.reduceEqDiff, Nat.reduceLT, Nat.reduceLeDiff, w1]; (all_goals fail_if_success show False)) | fail
          refine Rnd.normal (n + 1, d', u + 3) ⟨⟨m2 + 1, by dsimp only; omega, hW.1⟩, by dsimp only; omega, hgo'⟩ (by dsimp only; omega) ?_
          dsimp only
          exact kp [⟨0, 0, 123, (cRd b (u + 3))⟩, ⟨1, 1, 33, rdZ⟩, ⟨2, 2, 33, [.val d'.cells.length (d'.cells.map vS), .val d'.waits.length (d'.waits.flatMap cWt), vI d'.room, vI d'.left]⟩]
  · have hcm := az (hb (q + 1) (by omega)) (n := 9) (by omega)
    have hP : ∀ {m2 : Mem}, m2 0 = .row 123 (cRd b q) → _ := fun {m2} hj => gB (mem := m2) (j := 0) b 42 hj (hb q (by omega))
    have hO : ∀ {m2 : Mem} {k : Nat}, m2 0 = .row 123 (cRd b (q + 1)) → m2 k = .row 3 ((at1V b q).map vI) → _ := fun {m2 k} hj hk => oneR (mem := m2) (j := 0) (k := k) b (at1V b q) hj hk (hb (q + 1) (by omega)) (by show 0 < 9; omega) (by show 9 ≤ 1000; omega)
    have hT : ∀ {m2 : Mem}, m2 0 = .row 123 (cRd b (q + 2)) → _ := fun {m2} hj => Jy (mem := m2) (j := 0) b hj (hb (q + 2) (by omega))
    have hin := NC hb q (by omega) _ (getD_mem (l := at1V b q) (k := (ae b (q + 1) 9).toNat) (d := 0) (by show (ae b (q + 1) 9).toNat < 9; omega))
    have hgo' : dkGo (at1V b) b n (aO d ((at1V b q).getD (ae b (q + 1) 9).toNat 0) (jJ b (q + 2))).1 (q + 3) = D1 := hgo
    have htx := oM (hb (q + 2) (by omega))
    rw [show ((at1V b q).length : Int) = 9 from rfl] at hO
    generalize (at1V b q).getD (ae b (q + 1) 9).toNat 0 = c at hO hin hgo'
    generalize jJ b (q + 2) = x at hT htx hgo'
    have hW := hX.write (by omega) hin htx
    have hk := NE hX (by omega) hin htx
    have hl0 : ¬ d.left = 0 := by rw [hX.left]; decide
    have w1 : IntKind.i64.wrap (((n + 1 : Nat) : Int) - 1) = (n : Int) := by rw [af (by omega) (by omega)]; omega
    have hL1 := yu d c x (hX.b (by omega)) hl0 hk
    have hL2 := iL d c x (hX.b (by omega))
    rw [iD hl0 hk] at hL1 hL2 hW hgo'
    generalize hd' : (⟨d.cells, d.waits ++ [⟨c, x⟩], au d.room, au d.left⟩ : Dk) = d' at hL1 hL2 hW hgo'
    dsimp only at hL1 hL2 hW hgo'
    clear hd'
    rcases n with _ | n
    · repeat' first | ((with_reducible show dw _ _ _ _ _ _ _ _ _ _ _ _); first | refine sC rfl rfl rfl rfl (fun m2 hm2 => hT hm2) ?_ | refine sT 4 rfl rfl rfl rfl (List.mem_cons_self ..) (fun m2 hm2 hm3 => hO hm2 hm3) ?_ | refine sC rfl rfl rfl rfl (fun m2 hm2 => hP hm2) ?_) | refine sK ?_ | ((with_reducible show W _ _ (.region 5 _ _) _ _); refine dMS 0 [3, 5, 7] 9 12 2 ?_) | refine sS ?_ | refine rX ?_ | ((with_reducible show uC ..); refine uR rfl rfl rfl rfl hL1 ?_) | refine sO (fun K' hK' => ?_) | refine yA (fun K' hA' => ?_) | (refine sE hK' ?_; clear hK') | (refine sE hA' ?_; clear hA') | (refine sD (fun hc => ?_) (fun hc => ?_) <;> try exact sZ hc) | refine sU ?_ ?_ | exact sX | (simp only [go_sem, Nat.reduceAdd, Nat.reduceMul, Nat.reduceEqDiff, Nat.reduceLT, Nat.reduceLeDiff, w1]; (all_goals fail_if_success show False)) | fail
      refine Rnd.normal (0, d', q + 3) ⟨⟨m + 1, by dsimp only; omega, hW.1⟩, by dsimp only; omega, hgo'⟩ (by dsimp only; omega) ?_
      dsimp only
      exact kp [⟨0, 0, 123, (cRd b (q + 3))⟩, ⟨1, 1, 33, rdZ⟩, ⟨2, 2, 33, [.ref 3 0 d'.cells.length, .ref 4 0 d'.waits.length, vI d'.room, vI d'.left]⟩, ⟨98432, 3, 9, (d'.cells.map vS)⟩, ⟨98433, 4, 110, (d'.waits.flatMap cWt)⟩]
    · repeat' first | ((with_reducible show dw _ _ _ _ _ _ _ _ _ _ _ _); first | refine sC rfl rfl rfl rfl (fun m2 hm2 => hT hm2) ?_ | refine sT 4 rfl rfl rfl rfl (List.mem_cons_self ..) (fun m2 hm2 hm3 => hO hm2 hm3) ?_ | refine sC rfl rfl rfl rfl (fun m2 hm2 => hP hm2) ?_) | refine sK ?_ | ((with_reducible show W _ _ (.region 5 _ _) _ _); refine dMS 0 [3, 5, 7] 9 12 2 ?_) | refine sS ?_ | refine rX ?_ | ((with_reducible show uC ..); refine uR rfl rfl rfl rfl hL2 ?_) | refine sO (fun K' hK' => ?_) | refine yA (fun K' hA' => ?_) | (refine sE hK' ?_; clear hK') | (refine sE hA' ?_; clear hA') | (refine sD (fun hc => ?_) (fun hc => ?_) <;> try exact sZ hc) | refine sU ?_ ?_ | exact sX | (simp only [go_sem, Nat.reduceAdd, Nat.reduceMul, Nat.reduceEqDiff, Nat.reduceLT, Nat.reduceLeDiff, w1]; (all_goals fail_if_success show False)) | fail
      refine Rnd.normal (n + 1, d', q + 3) ⟨⟨m + 1, by dsimp only; omega, hW.1⟩, by dsimp only; omega, hgo'⟩ (by dsimp only; omega) ?_
      dsimp only
      exact kp [⟨0, 0, 123, (cRd b (q + 3))⟩, ⟨1, 1, 33, rdZ⟩, ⟨2, 2, 33, [.val d'.cells.length (d'.cells.map vS), .val d'.waits.length (d'.waits.flatMap cWt), vI d'.room, vI d'.left]⟩]
end Go.Proofs.YtknciobaifdafaaGreatDoor.T
set_option linter.unusedVariables false
set_option maxRecDepth 100000
set_option maxHeartbeats 4000000
set_option linter.unusedSimpArgs false
namespace Go.Proofs.YtknciobaifdafaaGreatDoor.T
open Go Go.Pv Go.Proofs.YtknciobaifdafaaGreatDoor.EF
theorem mQ {σ : Nat → Nat} (l : List ByteArray) : (l.map vS).map (renC σ) = l.map vS := by rw [List.map_map]; rfl
theorem PE {mem : Mem} {j : Nat} (K : Nat) (b : List Int) {p : Nat} (hj : mem j = .row 123 (cRd b p)) (hK : mem K = .free) (hK1 : mem (K + 1) = .free) (hb : ∀ q, q ≤ 1000000 → RdOk b q) (hp : p + 150 ≤ 1000000) : aK Tryz.prog 136 [.ptr j 0] mem fun y m => y = vDkK K (fO b p).1 ∧ m = upd (aH K (AU (fO b p).1) mem) j (.row 123 (cRd b (fO b p).2)) :=
  aK.frame1 (news := AU (fO b p).1) K (QW b p hb hp) rfl hj rfl rfl (fun e he => by
      simp only [List.mem_cons, List.not_mem_nil, or_false] at he
      rcases he with rfl | rfl
      · exact mQ _
      · exact xG _) (fun i hi => by
      simp only [List.length_cons, List.length_nil] at hi
      have : i = 0 ∨ i = 1 := by omega
      rcases this with rfl | rfl
      · exact hK
      · exact hK1) (fun x hx => by rw [List.mem_singleton.1 hx]; exact jd (by decide)) (rd_h b p 1) (show GOk Tryz.prog _ from fun z hz => by
      simp only [List.mem_cons, List.not_mem_nil, or_false] at hz
      rcases hz with rfl | rfl | rfl | rfl
      · exact .inl ⟨_, _, _, rfl⟩
      · exact .inl ⟨_, _, _, rfl⟩
      · exact HOk.b _
      · exact HOk.b _) (fun z hz => (rd_h b _ 1 z hz).1) (fun e he z hz => by
      simp only [List.mem_cons, List.not_mem_nil, or_false] at he
      rcases he with rfl | rfl
      · exact (rQ _ 1 z hz).1
      · exact (IJ _ 1 z hz).1)
abbrev vDkC (K : Nat) (d : Dk) : PV := .agg [.ref K 0 d.cells.length, .val d.waits.length (d.waits.flatMap cWt), vI d.room, vI d.left]
theorem NF (b : List Int) (p : Nat) (hb : ∀ q, q ≤ 1000000 → RdOk b q) (hp : p + 400 ≤ 1000000) (hk0 : ¬ ae b (fO b p).2 24 = 0) : OkS Tryz.prog 88 [.ptr 0 0] [(123, cRd b p)] (fun i => i = 0) (vDkC 1 (cO b p).1) [(123, cRd b (cO b p).2), (9, (cO b p).1.cells.map vS)] := by
  obtain ⟨g1, g2, g3, g4, g5, _⟩ := qI (b := b) (p := p) hb (by omega)
  have hD : ∀ {mem : Mem}, mem 0 = .row 123 (cRd b p) → mem 200 = .free → mem 201 = .free → _ := fun {mem} hj h1 h2 => PE (mem := mem) (j := 0) 200 b hj h1 h2 hb (by omega)
  unfold cO
  generalize fO b p = D at hD g1 g2 g3 g4 g5 hk0 ⊢
  obtain ⟨d, q⟩ := D
  dsimp only at hD g1 g2 g3 g4 g5 hk0 ⊢
  have hP : ∀ {mem : Mem}, mem 0 = .row 123 (cRd b q) → _ := fun {mem} hj => gB (mem := mem) (j := 0) b 24 hj (hb q (by omega))
  unfold uS
  dsimp only
  generalize ae b q 24 = c at hP hk0 ⊢
  rw [if_neg hk0]
  by_cases c1 : c = 1
  · rw [if_pos c1]
    refine stS Tryz.func88 [.cell 2 33] 53 rfl rfl rfl ?_
    repeat' first | refine sS ?_ | ((with_reducible show aC ..); first | refine cM rfl rfl rfl rfl (hD (by simp only [upd]; rfl) (by simp only [upd]; rfl) (by simp only [upd]; rfl)) ?_ | refine cM rfl rfl rfl rfl (hP (by simp only [upd]; rfl)) ?_) | refine sO (fun K' hK' => ?_) | (refine sE hK' ?_; clear hK') | (refine sD (fun hc => ?_) (fun hc => ?_) <;> try exact sZ hc) | ((with_reducible first | refine En.ret ?_ | refine En.normal ?_); simp only [go_sem, Nat.reduceAdd, Nat.reduceEqDiff, Nat.reduceLT, Nat.reduceLeDiff]) | (simp only [go_sem, Nat.reduceAdd, Nat.reduceMul, Nat.reduceEqDiff, Nat.reduceLT, Nat.reduceLeDiff]; (all_goals fail_if_success show False)) | fail
    all_goals exact kp [⟨0, 0, 123, (cRd b (q + 1))⟩, ⟨200, 1, 9, (d.cells.map vS)⟩]
  · rw [if_neg c1]
    by_cases c2 : c = 2
    · rw [if_pos c2]
      have hO : ∀ {m2 : Mem} {k : Nat}, m2 0 = .row 123 (cRd b (q + 1)) → m2 k = .row 3 (badL.map vI) → _ := fun {m2 k} hj hk => oneR (mem := m2) (j := 0) (k := k) b badL hj hk (hb (q + 1) (by omega)) (by decide) (by decide)
      rw [show (badL.length : Int) = 2 from rfl] at hO
      generalize badL.getD (ae b (q + 1) 2).toNat 0 = x at hO ⊢
      refine stS Tryz.func88 [.cell 2 33] 53 rfl rfl rfl ?_
      repeat' first | ((with_reducible show dw _ _ _ _ _ _ _ _ _ _ _ _); refine sT 3 rfl rfl rfl rfl (List.mem_cons_self ..) (fun m2 hm2 hm3 => hO hm2 hm3) ?_) | ((with_reducible show W _ _ (.region 8 _ _) _ _); refine dM 7 0 [4] ?_) | refine sS ?_ | ((with_reducible show aC ..); first | refine cM rfl rfl rfl rfl (hD (by simp only [upd]; rfl) (by simp only [upd]; rfl) (by simp only [upd]; rfl)) ?_ | refine cM rfl rfl rfl rfl (hP (by simp only [upd]; rfl)) ?_) | refine sO (fun K' hK' => ?_) | refine yA (fun K' hA' => ?_) | (refine sE hK' ?_; clear hK') | (refine sE hA' ?_; clear hA') | (refine sD (fun hc => ?_) (fun hc => ?_) <;> try exact sZ hc) | refine sU ?_ ?_ | exact sX | ((with_reducible first | refine En.ret ?_ | refine En.normal ?_); simp only [go_sem, Nat.reduceAdd, Nat.reduceEqDiff, Nat.reduceLT, Nat.reduceLeDiff]) | (simp only [go_sem, Nat.reduceAdd, Nat.reduceMul, Nat.reduceEqDiff, Nat.reduceLT, Nat.reduceLeDiff]; (all_goals fail_if_success show False)) | fail
      have e1 : (d.waits ++ [⟨x, ByteArray.empty⟩] : List Wt).length = d.waits.length + 1 := by simp
      have e2 : d.waits.flatMap cWt ++ [vI x, vS ByteArray.empty] = (d.waits ++ [⟨x, ByteArray.empty⟩] : List Wt).flatMap cWt := (wo d.waits ⟨x, ByteArray.empty⟩).symm
      dsimp only [vDkC]
      rw [e1, e2]
      generalize (d.waits ++ [⟨x, ByteArray.empty⟩] : List Wt) = Ws at e1 ⊢
      exact Weak.intro [⟨0, 0, 123, (cRd b (q + 2))⟩, ⟨200, 1, 9, (d.cells.map vS)⟩] (by simp) (by simp) (by intro e he; simp only [List.mem_cons, List.not_mem_nil, or_false] at he; rcases he with rfl | rfl <;> refine ⟨_, by simp only [upd, if_true, if_false, Nat.reduceEqDiff]; rfl, ?_⟩ <;> first | (simp [All2, vwC, kap, ax, jl]; done) | (refine bC ?_; first | exact bn | exact iq | exact bJ | exact flat_nil | (repeat' with_reducible first | exact flat_nil | exact dE | exact bf | exact jm | exact bD | refine Flat.cons ?_ ?_); done)) rfl (by simp [All2, vw, vwA, vwC, kap, upd, ax, vS, dC]) (by intro i hi; rcases hi with rfl | rfl <;> rfl)
    · rw [if_neg c2]
      by_cases c3 : c = 3
      · rw [if_pos c3]
        have hMn : Ok Tryz.prog 137 [vS ⟨#[99]⟩, vI 1201] (vS (repS ⟨#[99]⟩ 1201)) [] := JB ⟨#[99]⟩ 1201 (by decide) (by decide)
        generalize repS ⟨#[99]⟩ 1201 = MT at hMn ⊢
        have hl : (d.cells.set 0 MT).length = d.cells.length := List.length_set
        refine stS Tryz.func88 [.cell 2 33] 53 rfl rfl rfl ?_
        repeat' first | refine yQ ?_ | ((with_reducible show W _ _ (.region 10 _ _) _ _); refine dS 5 4 200 ?_) | refine sS ?_ | ((with_reducible show aC ..); first | refine cM rfl rfl rfl rfl (hD (by simp only [upd]; rfl) (by simp only [upd]; rfl) (by simp only [upd]; rfl)) ?_ | refine cM rfl rfl rfl rfl (hP (by simp only [upd]; rfl)) ?_) | ((with_reducible show uC ..); refine uF rfl rfl rfl rfl hMn ?_) | refine sO (fun K' hK' => ?_) | refine yA (fun K' hA' => ?_) | (refine sE hK' ?_; clear hK') | (refine sE hA' ?_; clear hA') | (refine sD (fun hc => ?_) (fun hc => ?_) <;> try exact sZ hc) | refine sU ?_ ?_ | exact sX | ((with_reducible first | refine En.ret ?_ | refine En.normal ?_); simp only [go_sem, Nat.reduceAdd, Nat.reduceEqDiff, Nat.reduceLT, Nat.reduceLeDiff]) | (simp only [go_sem, Nat.reduceAdd, Nat.reduceMul, Nat.reduceEqDiff, Nat.reduceLT, Nat.reduceLeDiff]; (all_goals fail_if_success show False)) | fail
        rw [show (d.cells.map vS).set 0 (.b (.string MT)) = (d.cells.set 0 MT).map vS from dm]
        generalize d.cells.set 0 MT = C at hl ⊢
        exact Weak.intro [⟨0, 0, 123, (cRd b (q + 1))⟩, ⟨200, 1, 9, (C.map vS)⟩] (by simp) (by simp) (by intro e he; simp only [List.mem_cons, List.not_mem_nil, or_false] at he; rcases he with rfl | rfl <;> refine ⟨_, by simp only [upd, if_true, if_false, Nat.reduceEqDiff]; rfl, ?_⟩ <;> first | (simp [All2, vwC, kap, ax, jl]; done) | (refine bC ?_; first | exact bn | exact iq | exact bJ | exact flat_nil | (repeat' with_reducible first | exact flat_nil | exact dE | exact bf | exact jm | exact bD | refine Flat.cons ?_ ?_); done)) rfl (by simp [All2, vw, vwA, vwC, kap, upd, ax, vS, dC, hl]) (by intro i hi; rcases hi with rfl | rfl <;> rfl)
      · rw [if_neg c3]
        by_cases c4 : c = 4
        · rw [if_pos c4]
          refine stS Tryz.func88 [.cell 2 33] 53 rfl rfl rfl ?_
          repeat' first | refine sS ?_ | ((with_reducible show aC ..); first | refine cM rfl rfl rfl rfl (hD (by simp only [upd]; rfl) (by simp only [upd]; rfl) (by simp only [upd]; rfl)) ?_ | refine cM rfl rfl rfl rfl (hP (by simp only [upd]; rfl)) ?_) | refine sO (fun K' hK' => ?_) | (refine sE hK' ?_; clear hK') | (refine sD (fun hc => ?_) (fun hc => ?_) <;> try exact sZ hc) | ((with_reducible first | refine En.ret ?_ | refine En.normal ?_); simp only [go_sem, Nat.reduceAdd, Nat.reduceEqDiff, Nat.reduceLT, Nat.reduceLeDiff]) | (simp only [go_sem, Nat.reduceAdd, Nat.reduceMul, Nat.reduceEqDiff, Nat.reduceLT, Nat.reduceLeDiff]; (all_goals fail_if_success show False)) | fail
          all_goals exact kp [⟨0, 0, 123, (cRd b (q + 1))⟩, ⟨200, 1, 9, (d.cells.map vS)⟩]
        · rw [if_neg c4]
          by_cases c5 : c = 5
          · rw [if_pos c5]
            refine stS Tryz.func88 [.cell 2 33] 53 rfl rfl rfl ?_
            repeat' first | refine sS ?_ | ((with_reducible show aC ..); first | refine cM rfl rfl rfl rfl (hD (by simp only [upd]; rfl) (by simp only [upd]; rfl) (by simp only [upd]; rfl)) ?_ | refine cM rfl rfl rfl rfl (hP (by simp only [upd]; rfl)) ?_) | refine sO (fun K' hK' => ?_) | (refine sE hK' ?_; clear hK') | (refine sD (fun hc => ?_) (fun hc => ?_) <;> try exact sZ hc) | (simp only [go_sem, Nat.reduceAdd, Nat.reduceMul, Nat.reduceEqDiff, Nat.reduceLT, Nat.reduceLeDiff]; (all_goals fail_if_success show False)) | fail
            generalize hR : GZ b d.waits (q + 1) = R
            refine W.loop (fun x : List Wt × Nat => ⟨[.ptr 0 0, .any, .ptr 1 0, .ptr 2 0, .any, .any, .any, .any, .any, .any, .any, .any, .any, .any, .any, .any, .any, .any, .any, .any, .any, .any, .any, .any, .any, .any, .any, .any, .any, .any, .any, .any, .any, .any, .any, .any, .any, .any, .any, .any, .any, .any, .any, .any, .any, .any, .any, .any, .any, .any, .any, .any, .any], aZ [(0, 123, cRd b x.2), (1, 33, rdZ), (2, 33, [.ref 3 0 d.cells.length, .ref 4 0 x.1.length, vI d.room, vI d.left]), (3, 9, d.cells.map vS), (4, 110, x.1.flatMap cWt)]⟩)
              (fun x => x.1.length ≤ 101 ∧ x.2 + (102 - x.1.length) ≤ p + 300 ∧ uQ b (102 - x.1.length) x.1 x.2 = R) (fun x => 102 - x.1.length) (d.waits, q + 1) ?wk5 ⟨by dsimp only; omega, by dsimp only; omega, hR⟩ (fun x hx => ?_)
            case wk5 => exact kp [⟨0, 0, 123, (cRd b (q + 1))⟩, ⟨16384, 1, 33, rdZ⟩, ⟨32800, 2, 33, [.ref 3 0 d.cells.length, .ref 4 0 d.waits.length, vI d.room, vI d.left]⟩, ⟨200, 3, 9, (d.cells.map vS)⟩, ⟨201, 4, 110, (d.waits.flatMap cWt)⟩]
            obtain ⟨ws, u⟩ := x
            obtain ⟨hl1, hu, hF⟩ := hx
            dsimp only at hl1 hu hF ⊢
            obtain ⟨m, hm⟩ : ∃ m, 102 - ws.length = m + 1 := ⟨101 - ws.length, by omega⟩
            have hp2 := az (hb u (by omega)) (n := 2) (by omega)
            have hQ : ∀ {m2 : Mem}, m2 0 = .row 123 (cRd b u) → _ := fun {m2} hj => gB (mem := m2) (j := 0) b 2 hj (hb u (by omega))
            rw [hm] at hF
            unfold uQ at hF
            generalize ae b u 2 = y at hp2 hQ hF
            have w1 : IntKind.i64.wrap (100 + y) = 100 + y := af (by omega) (by omega)
            repeat' first | ((with_reducible show dw _ _ _ _ _ _ _ _ _ _ _ _); refine sC rfl rfl rfl rfl (fun m2 hm2 => hQ hm2) ?_) | ((with_reducible show W _ _ (.region 14 _ _) _ _); refine dM 7 0 [4] ?_) | refine sS ?_ | refine sO (fun K' hK' => ?_) | refine yA (fun K' hA' => ?_) | (refine sE hK' ?_; clear hK') | (refine sE hA' ?_; clear hA') | (refine sD (fun hc => ?_) (fun hc => ?_) <;> try exact sZ hc) | refine sU ?_ ?_ | exact sX | ((with_reducible first | refine En.ret ?_ | refine En.normal ?_); simp only [go_sem, Nat.reduceAdd, Nat.reduceEqDiff, Nat.reduceLT, Nat.reduceLeDiff]) | (simp only [go_sem, Nat.reduceAdd, Nat.reduceMul, Nat.reduceEqDiff, Nat.reduceLT, Nat.reduceLeDiff, w1]; (all_goals fail_if_success show False)) | fail
            · rw [if_pos (by assumption)] at hF
              have e1 : (ws ++ [⟨5, ⟨#[119]⟩⟩] : List Wt).length = ws.length + 1 := by simp
              have e2 : ws.flatMap cWt ++ [vI 5, vS ⟨#[119]⟩] = (ws ++ [⟨5, ⟨#[119]⟩⟩] : List Wt).flatMap cWt := (wo ws ⟨5, ⟨#[119]⟩⟩).symm
              rw [e2, ← e1]
              generalize (ws ++ [⟨5, ⟨#[119]⟩⟩] : List Wt) = Ws at e1 hF ⊢
              refine Rnd.normal (Ws, u + 1) ⟨by dsimp only; omega, by dsimp only; omega, by dsimp only; rw [show 102 - Ws.length = m by omega]; exact hF⟩ (by dsimp only; omega) ?_
              dsimp only
              exact kp [⟨0, 0, 123, (cRd b (u + 1))⟩, ⟨1, 1, 33, rdZ⟩, ⟨2, 2, 33, [.ref 3 0 d.cells.length, .ref 4 0 Ws.length, vI d.room, vI d.left]⟩, ⟨3, 3, 9, (d.cells.map vS)⟩, ⟨262208, 4, 110, (Ws.flatMap cWt)⟩]
            · rw [if_neg (by assumption)] at hF
              rw [← hF]
              exact kp [⟨0, 0, 123, (cRd b (u + 1))⟩, ⟨3, 1, 9, (d.cells.map vS)⟩]
          · rw [if_neg c5]
            refine stS Tryz.func88 [.cell 2 33] 53 rfl rfl rfl ?_
            repeat' first | refine sS ?_ | ((with_reducible show aC ..); first | refine cM rfl rfl rfl rfl (hD (by simp only [upd]; rfl) (by simp only [upd]; rfl) (by simp only [upd]; rfl)) ?_ | refine cM rfl rfl rfl rfl (hP (by simp only [upd]; rfl)) ?_) | refine sO (fun K' hK' => ?_) | (refine sE hK' ?_; clear hK') | (refine sD (fun hc => ?_) (fun hc => ?_) <;> try exact sZ hc) | ((with_reducible first | refine En.ret ?_ | refine En.normal ?_); simp only [go_sem, Nat.reduceAdd, Nat.reduceEqDiff, Nat.reduceLT, Nat.reduceLeDiff]) | (simp only [go_sem, Nat.reduceAdd, Nat.reduceMul, Nat.reduceEqDiff, Nat.reduceLT, Nat.reduceLeDiff]; (all_goals fail_if_success show False)) | fail
            all_goals exact kp [⟨0, 0, 123, (cRd b (q + 1))⟩, ⟨200, 1, 9, (d.cells.map vS)⟩]
theorem NG (b : List Int) (p : Nat) (hb : ∀ q, q ≤ 1000000 → RdOk b q) (hp : p + 400 ≤ 1000000) (hk0 : ae b (fO b p).2 24 = 0) : OkS Tryz.prog 88 [.ptr 0 0] [(123, cRd b p)] (fun i => i = 0) (vDk (cO b p).1) [(123, cRd b (cO b p).2)] := by
  obtain ⟨g1, g2, g3, g4, g5, _⟩ := qI (b := b) (p := p) hb (by omega)
  have hD : ∀ {mem : Mem}, mem 0 = .row 123 (cRd b p) → mem 200 = .free → mem 201 = .free → _ := fun {mem} hj h1 h2 => PE (mem := mem) (j := 0) 200 b hj h1 h2 hb (by omega)
  unfold cO
  generalize fO b p = D at hD g1 g2 g3 g4 g5 hk0 ⊢
  obtain ⟨d, q⟩ := D
  dsimp only at hD g1 g2 g3 g4 g5 hk0 ⊢
  have hP : ∀ {mem : Mem}, mem 0 = .row 123 (cRd b q) → _ := fun {mem} hj => gB (mem := mem) (j := 0) b 24 hj (hb q (by omega))
  unfold uS
  dsimp only
  generalize ae b q 24 = c at hP hk0 ⊢
  rw [if_pos hk0]
  have hl : (d.cells.drop 1).length = d.cells.length - 1 := by simp
  have hm : (d.cells.drop 1).map vS = (d.cells.map vS).drop 1 := List.map_drop
  have hl2 : (d.cells.map vS).length = d.cells.length := List.length_map ..
  have ht : ((d.cells.map vS).drop 1).take (d.cells.length - 1) = (d.cells.map vS).drop 1 := List.take_of_length_le (by rw [List.length_drop, hl2]; omega)
  refine stS Tryz.func88 [.cell 2 33] 53 rfl rfl rfl ?_
  repeat' first | refine sS ?_ | ((with_reducible show aC ..); first | refine cM rfl rfl rfl rfl (hD (by simp only [upd]; rfl) (by simp only [upd]; rfl) (by simp only [upd]; rfl)) ?_ | refine cM rfl rfl rfl rfl (hP (by simp only [upd]; rfl)) ?_) | refine sO (fun K' hK' => ?_) | (refine sE hK' ?_; clear hK') | (refine sD (fun hc => ?_) (fun hc => ?_) <;> try exact sZ hc) | refine sU ?_ ?_ | exact sX | ((with_reducible first | refine En.ret ?_ | refine En.normal ?_); simp only [go_sem, Nat.reduceAdd, Nat.reduceEqDiff, Nat.reduceLT, Nat.reduceLeDiff]) | (simp only [go_sem, Nat.reduceAdd, Nat.reduceMul, Nat.reduceEqDiff, Nat.reduceLT, Nat.reduceLeDiff, Int.reduceToNat]; (all_goals fail_if_success show False)) | fail
  · exact fun h => h
  · rw [show ((d.cells.length : Int) - 1).toNat = d.cells.length - 1 by omega]
    have hcl : ∀ z, z ∈ (d.cells.map vS).tail → Cln Tryz.prog z := fun z hz => by
      obtain ⟨y, _, rfl⟩ := List.mem_map.1 (List.mem_of_mem_tail hz)
      exact Cln.b _
    simp only [vDk, hl, hm]
    exact Weak.intro [⟨0, 0, 123, (cRd b (q + 1))⟩] (by simp) (by simp) (by intro e he; simp only [List.mem_cons, List.not_mem_nil, or_false] at he; rcases he with rfl <;> refine ⟨_, by simp only [upd, if_true, if_false, Nat.reduceEqDiff]; rfl, ?_⟩ <;> first | (simp [All2, vwC, ax, jl]; done) | (refine bC ?_; first | exact bn | exact iq | exact bJ | exact flat_nil | (repeat' with_reducible first | exact flat_nil | exact dE | exact bf | exact jm | exact bD | refine Flat.cons ?_ ?_); done)) rfl (by simp [All2, vw, vwA, vwC, kap, upd, ax, vS, dC]; exact hcl) (by intro i hi; rcases hi with rfl | rfl <;> rfl)
theorem Qu {mem : Mem} {j : Nat} (K : Nat) (b : List Int) {p : Nat} (hj : mem j = .row 123 (cRd b p)) (hK : mem K = .free) (hb : ∀ q, q ≤ 1000000 → RdOk b q) (hp : p + 400 ≤ 1000000) (hk0 : ¬ ae b (fO b p).2 24 = 0) : aK Tryz.prog 88 [.ptr j 0] mem fun y m => y = vDkC K (cO b p).1 ∧ m = upd (upd mem K (.row 9 ((cO b p).1.cells.map vS))) j (.row 123 (cRd b (cO b p).2)) :=
  aK.frame1 (news := [(9, (cO b p).1.cells.map vS)]) K (NF b p hb hp hk0) rfl hj rfl rfl (fun e he => by rw [List.mem_singleton.1 he]; exact mQ _) (fun i hi => by rw [show K + i = K by rw [List.length_singleton] at hi; omega]; exact hK) (fun x hx => by rw [List.mem_singleton.1 hx]; exact jd (by decide)) (rd_h b p 1) (show GOk Tryz.prog _ from fun z hz => by
      simp only [List.mem_cons, List.not_mem_nil, or_false] at hz
      rcases hz with rfl | rfl | rfl | rfl
      · exact .inl ⟨_, _, _, rfl⟩
      · exact dF
      · exact HOk.b _
      · exact HOk.b _) (fun z hz => (rd_h b _ 1 z hz).1) (fun e he z hz => by rw [List.mem_singleton.1 he] at hz; exact (rQ _ 1 z hz).1)
theorem O7 {mem : Mem} {j : Nat} (b : List Int) {p : Nat} (hj : mem j = .row 123 (cRd b p)) (hb : ∀ q, q ≤ 1000000 → RdOk b q) (hp : p + 400 ≤ 1000000) (hk0 : ae b (fO b p).2 24 = 0) : aK Tryz.prog 88 [.ptr j 0] mem fun y m => y = vDk (cO b p).1 ∧ m = upd mem j (.row 123 (cRd b (cO b p).2)) :=
  aK.frame1 (news := []) 0 (NG b p hb hp hk0) rfl hj rfl rfl (fun e he => by cases he) (fun i hi => absurd hi (Nat.not_lt_zero _)) (fun x hx => by rw [List.mem_singleton.1 hx]; exact jd (by decide)) (rd_h b p 1) (show GOk Tryz.prog _ from fun z hz => by
      simp only [List.mem_cons, List.not_mem_nil, or_false] at hz
      rcases hz with rfl | rfl | rfl | rfl
      · exact dB
      · exact dF
      · exact HOk.b _
      · exact HOk.b _) (fun z hz => (rd_h b _ 1 z hz).1) (fun e he => by cases he)
end Go.Proofs.YtknciobaifdafaaGreatDoor.T
