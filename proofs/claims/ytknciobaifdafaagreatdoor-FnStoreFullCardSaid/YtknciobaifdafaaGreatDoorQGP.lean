/- The draws of the store, walked, part 23: any list of pages, a store and pages. -/
import Derived.Test.YtknciobaifdafaaGreatDoorQEZ
import Derived.Test.YtknciobaifdafaaGreatDoorQGN
set_option linter.unusedVariables false
set_option maxRecDepth 100000
set_option maxHeartbeats 4000000
set_option linter.unusedSimpArgs false
namespace Go.Pv
def atL : List Int := [-1, 0, 20]
def zsL (k : Nat) : List Wt := (List.range k).map fun i : Nat => ⟨(i : Int), ⟨#[122]⟩⟩
theorem NR (k : Nat) : zsL (k + 1) = zsL k ++ [⟨(k : Int), ⟨#[122]⟩⟩] := by unfold zsL; rw [List.range_succ, List.map_append]; rfl
theorem JG (k : Nat) : (zsL k).length = k := by unfold zsL; simp
def AZ (b : List Int) (L : List Wt × Nat) : List Wt × Nat :=
  if ae b L.2 20 = 0 then ([], L.2 + 1)
  else if ae b L.2 20 = 1 then (L.1 ++ [⟨atL.getD (ae b (L.2 + 1) 3).toNat 0, ByteArray.empty⟩], L.2 + 2)
  else if ae b L.2 20 = 2 then (L.1.set 0 ⟨(L.1.getD 0 wt0).cell, repS ⟨#[112]⟩ (1100 + (ae b (L.2 + 1) 2).toNat)⟩, L.2 + 2)
  else if ae b L.2 20 = 3 then (zsL 20, L.2 + 1)
  else (L.1, L.2 + 1)
def jo (b : List Int) (p : Nat) : List Wt × Nat := AZ b (dI b p)
theorem Ha {b : List Int} {p : Nat} (hb : ∀ q, q ≤ 1000000 → RdOk b q) (hp : p + 20 ≤ 1000000) : (jo b p).1.length ≤ 20 ∧ (jo b p).2 ≤ p + 12 := by
  obtain ⟨h1, h2, h3, h4, h5⟩ := qH hb (p := p) (by omega)
  unfold jo AZ
  repeat' split
  · exact ⟨Nat.zero_le _, by dsimp only; omega⟩
  · exact ⟨by dsimp only; rw [List.length_append]; simp; omega, by dsimp only; omega⟩
  · exact ⟨by dsimp only; rw [List.length_set]; omega, by dsimp only; omega⟩
  · exact ⟨by dsimp only; rw [JG]; exact Nat.le_refl _, by dsimp only; omega⟩
  · exact ⟨by dsimp only; omega, by dsimp only; omega⟩
theorem QB {l : List Wt} {t : ByteArray} (h : 0 < l.length) : (l.flatMap cWt).set 1 (vS t) = (l.set 0 ⟨(l.getD 0 wt0).cell, t⟩).flatMap cWt := by
  rcases l with _ | ⟨x, l⟩
  · exact absurd h (Nat.lt_irrefl _)
  · rfl
def lV (c : List Int) : Stor × List Wt := ((limS (cut c) (aX (cut c) 0)).1, (jo (cut c) (limS (cut c) (aX (cut c) 0)).2).1)
theorem su {c : List Int} (h : CodeOk c) : StQ (lV c).1 ∧ (lV c).2.length ≤ 20 := by
  obtain ⟨h1, h2⟩ := jO (p := 0) h.rd (by omega)
  have h3 : (limS (cut c) (aX (cut c) 0)).2 = (aX (cut c) 0).2 + 2 := rfl
  exact ⟨h1.lim h.rd (by omega), (Ha h.rd (by omega)).1⟩
end Go.Pv
namespace Go.Proofs.YtknciobaifdafaaGreatDoor.T
open Go Go.Pv Go.Proofs.YtknciobaifdafaaGreatDoor.EF
theorem NS (b : List Int) (p : Nat) (hb : ∀ q, q ≤ 1000000 → RdOk b q) (hp : p + 20 ≤ 1000000) : OkS Tryz.prog 91 [.ptr 0 0] [(123, cRd b p)] (fun i => i = 0) (vWts (jo b p).1) [(123, cRd b (jo b p).2)] := by
  obtain ⟨h1, h2, h3, h4, h5⟩ := qH hb (p := p) (by omega)
  have h0 := bW h1
  have hL : ∀ {mem : Mem}, mem 0 = .row 123 (cRd b p) → mem 200 = .free → _ := fun {mem} hj hK => PD (mem := mem) (j := 0) 200 b (p := p) hj hK hb (by omega)
  unfold jo
  generalize dI b p = L at hL h0 h1 h2 h4 h5 ⊢
  obtain ⟨l, q⟩ := L
  dsimp only at hL h0 h1 h2 h4 h5 ⊢
  have hP : ∀ {mem : Mem}, mem 0 = .row 123 (cRd b q) → _ := fun {mem} hj => gB (mem := mem) (j := 0) b 20 hj (hb q (by omega))
  unfold AZ
  dsimp only
  generalize ae b q 20 = c at hP ⊢
  by_cases c0 : c = 0
  · rw [if_pos c0]
    refine stS Tryz.func91 [.tmp 2] 40 rfl rfl rfl ?_
    repeat' first | refine sS ?_ | ((with_reducible show aC ..); first | refine cM rfl rfl rfl rfl (hL (by simp only [upd]; rfl) (by simp only [upd]; rfl)) ?_ | refine cM rfl rfl rfl rfl (hP (by simp only [upd]; rfl)) ?_) | refine sO (fun K' hK' => ?_) | (refine sE hK' ?_; clear hK') | (refine sD (fun hc => ?_) (fun hc => ?_) <;> try exact sZ hc) | ((with_reducible first | refine En.ret ?_ | refine En.normal ?_); simp only [go_sem]) | (simp only [go_sem]; (all_goals fail_if_success show False)) | fail
    all_goals exact kp [⟨0, 0, 123, (cRd b (q + 1))⟩]
  · rw [if_neg c0]
    by_cases c1 : c = 1
    · rw [if_pos c1]
      have hO : ∀ {mem : Mem} {k : Nat}, mem 0 = .row 123 (cRd b (q + 1)) → mem k = .row 3 (atL.map vI) → _ := fun {mem k} hj hk => oneR (mem := mem) (j := 0) (k := k) b atL hj hk (hb (q + 1) (by omega)) (by decide) (by decide)
      rw [show (atL.length : Int) = 3 from rfl] at hO
      generalize atL.getD (ae b (q + 1) 3).toNat 0 = x at hO ⊢
      refine stS Tryz.func91 [.tmp 2] 40 rfl rfl rfl ?_
      repeat' first | refine sS ?_ | ((with_reducible show aC ..); first | refine cM rfl rfl rfl rfl (hL (by simp only [upd]; rfl) (by simp only [upd]; rfl)) ?_ | refine cM rfl rfl rfl rfl (hP (by simp only [upd]; rfl)) ?_ | refine cM rfl rfl rfl rfl (hO (by simp only [upd]; rfl) (by simp only [upd]; rfl)) ?_) | refine sO (fun K' hK' => ?_) | (refine sE hK' ?_; clear hK') | (refine sD (fun hc => ?_) (fun hc => ?_) <;> try exact sZ hc) | refine sU ?_ ?_ | exact sX | ((with_reducible first | refine En.ret ?_ | refine En.normal ?_); simp only [go_sem]) | (simp only [go_sem, Nat.reduceAdd, Nat.reduceMul, Nat.reduceEqDiff, Nat.reduceLT, Nat.reduceLeDiff]; (all_goals fail_if_success show False)) | fail
      have e1 : (l ++ [⟨x, ByteArray.empty⟩] : List Wt).length = l.length + 1 := by simp
      have e2 : l.flatMap cWt ++ [vI x, vS ByteArray.empty] = (l ++ [⟨x, ByteArray.empty⟩] : List Wt).flatMap cWt := (wo l ⟨x, ByteArray.empty⟩).symm
      dsimp only [vWts]
      rw [e2, ← e1]
      generalize (l ++ [⟨x, ByteArray.empty⟩] : List Wt) = Ws
      exact kp [⟨0, 0, 123, (cRd b (q + 2))⟩]
    · rw [if_neg c1]
      by_cases c2 : c = 2
      · rw [if_pos c2]
        have hp2 := az (hb (q + 1) (by omega)) (n := 2) (by omega)
        have hQ : ∀ {mem : Mem}, mem 0 = .row 123 (cRd b (q + 1)) → _ := fun {mem} hj => gB (mem := mem) (j := 0) b 2 hj (hb (q + 1) (by omega))
        obtain ⟨y, hy⟩ : ∃ y : Nat, ae b (q + 1) 2 = y := ⟨(ae b (q + 1) 2).toNat, by omega⟩
        rw [hy] at hp2 hQ ⊢
        rw [Int.toNat_natCast]
        have w1 : IntKind.i64.wrap (1100 + (y : Int)) = ((1100 + y : Nat) : Int) := by rw [af (by omega) (by omega)]; omega
        have hMn := JB ⟨#[112]⟩ (1100 + y) (by decide) (by omega)
        generalize repS ⟨#[112]⟩ (1100 + y) = MT at hMn ⊢
        have hs := QB (l := l) (t := MT) (by omega)
        have hl : (l.set 0 ⟨(l.getD 0 wt0).cell, MT⟩).length = l.length := List.length_set
        refine stS Tryz.func91 [.tmp 2] 40 rfl rfl rfl ?_
        repeat' first | refine sS ?_ | ((with_reducible show aC ..); first | refine cM rfl rfl rfl rfl (hL (by simp only [upd]; rfl) (by simp only [upd]; rfl)) ?_ | refine cM rfl rfl rfl rfl (hP (by simp only [upd]; rfl)) ?_ | refine cM rfl rfl rfl rfl (hQ (by simp only [upd]; rfl)) ?_ | refine cF rfl rfl rfl rfl hMn ?_) | refine sO (fun K' hK' => ?_) | (refine sE hK' ?_; clear hK') | (refine sD (fun hc => ?_) (fun hc => ?_) <;> try exact sZ hc) | refine sU ?_ ?_ | exact sX | ((with_reducible first | refine En.ret ?_ | refine En.normal ?_); simp only [go_sem]) | (simp only [go_sem, Nat.reduceAdd, Nat.reduceEqDiff, w1]; (all_goals fail_if_success show False)) | fail
        rw [show (l.flatMap cWt).set 1 (.b (.string MT)) = (l.set 0 ⟨(l.getD 0 wt0).cell, MT⟩).flatMap cWt from hs]
        generalize (l.set 0 ⟨(l.getD 0 wt0).cell, MT⟩) = Ws at hl ⊢
        exact Weak.intro [⟨0, 0, 123, (cRd b (q + 2))⟩] (by simp) (by simp) (by intro e he; simp only [List.mem_cons, List.not_mem_nil, or_false] at he; rcases he with rfl <;> refine ⟨_, by simp only [upd, if_true, if_false, Nat.reduceEqDiff]; rfl, ?_⟩ <;> first | (simp [All2, vwC, ax, jl]; done) | (refine bC ?_; first | exact bn | exact iq | exact bJ | exact flat_nil | (repeat' with_reducible first | exact flat_nil | exact dE | exact bf | exact jm | exact bD | refine Flat.cons ?_ ?_); done)) rfl (by simp [All2, vw, vwA, vwC, kap, upd, vS, dC, hl]) (by intro i hi; rcases hi with rfl | rfl <;> rfl)
      · rw [if_neg c2]
        by_cases c3 : c = 3
        · rw [if_pos c3]
          refine stS Tryz.func91 [.tmp 2] 40 rfl rfl rfl ?_
          repeat' first | refine sS ?_ | ((with_reducible show aC ..); first | refine cM rfl rfl rfl rfl (hL (by simp only [upd]; rfl) (by simp only [upd]; rfl)) ?_ | refine cM rfl rfl rfl rfl (hP (by simp only [upd]; rfl)) ?_) | refine sO (fun K' hK' => ?_) | (refine sE hK' ?_; clear hK') | (refine sD (fun hc => ?_) (fun hc => ?_) <;> try exact sZ hc) | (simp only [go_sem]; (all_goals fail_if_success show False)) | fail
          refine W.loop (fun k : Nat => ⟨[.ptr 0 0, .any, .any, .ref 1 0 k, .any, .any, .any, .any, .any, .any, .any, .any, .any, .any, .any, .any, .any, .any, .any, .any, .any, .any, .any, .any, .any, .any, .any, .any, .any, .any, .any, .any, .any, .any, .any, .any, .any, .any, .any, .any], aZ [(0, 123, cRd b (q + 1)), (1, 77, (zsL k).flatMap cWt)]⟩) (fun k => k ≤ 20) (fun k => 20 - k) 0 ?wk3 (Nat.zero_le _) (fun k hk => ?_)
          case wk3 =>
            refine Weak.trans (Weak.none (k := 7) (t := 77) (by simp [upd])) ?_
            exact kp [⟨0, 0, 123, (cRd b (q + 1))⟩, ⟨7, 1, 77, []⟩]
          have hzl := JG k
          repeat' first | refine sS ?_ | refine sO (fun K' hK' => ?_) | (refine sE hK' ?_; clear hK') | (refine sD (fun hc => ?_) (fun hc => ?_) <;> try exact sZ hc) | refine sU ?_ ?_ | exact sX | ((with_reducible first | refine En.ret ?_ | refine En.normal ?_); simp only [go_sem]) | (simp only [go_sem, Nat.reduceAdd, Nat.reduceMul, Nat.reduceEqDiff, Nat.reduceLT, Nat.reduceLeDiff, hzl]; (all_goals fail_if_success show False)) | fail
          · refine Rnd.normal (k + 1) (by omega) (by omega) ?_
            rw [show (zsL k).flatMap cWt ++ [vI (k : Int), vS ⟨#[122]⟩] = (zsL (k + 1)).flatMap cWt by rw [NR, wo]]
            exact kp [⟨0, 0, 123, (cRd b (q + 1))⟩, ⟨213072, 1, 77, ((zsL (k + 1)).flatMap cWt)⟩]
          · obtain rfl : k = 20 := by omega
            exact Weak.intro [⟨0, 0, 123, (cRd b (q + 1))⟩] (by simp) (by simp) (by intro e he; simp only [List.mem_cons, List.not_mem_nil, or_false] at he; rcases he with rfl <;> refine ⟨_, by simp only [upd, if_true, if_false, Nat.reduceEqDiff]; rfl, ?_⟩ <;> first | (simp [All2, vwC, ax, jl]; done) | (refine bC ?_; first | exact bn | exact iq | exact bJ | exact flat_nil | (repeat' with_reducible first | exact flat_nil | exact dE | exact bf | exact jm | exact bD | refine Flat.cons ?_ ?_); done)) rfl (by simp [All2, vw, vwA, vwC, kap, upd, vS, dC, hzl]) (by intro i hi; rcases hi with rfl | rfl <;> rfl)
        · rw [if_neg c3]
          refine stS Tryz.func91 [.tmp 2] 40 rfl rfl rfl ?_
          repeat' first | refine sS ?_ | ((with_reducible show aC ..); first | refine cM rfl rfl rfl rfl (hL (by simp only [upd]; rfl) (by simp only [upd]; rfl)) ?_ | refine cM rfl rfl rfl rfl (hP (by simp only [upd]; rfl)) ?_) | refine sO (fun K' hK' => ?_) | (refine sE hK' ?_; clear hK') | (refine sD (fun hc => ?_) (fun hc => ?_) <;> try exact sZ hc) | ((with_reducible first | refine En.ret ?_ | refine En.normal ?_); simp only [go_sem]) | (simp only [go_sem]; (all_goals fail_if_success show False)) | fail
          all_goals exact kp [⟨0, 0, 123, (cRd b (q + 1))⟩]
theorem NT {mem : Mem} {j : Nat} (b : List Int) {p : Nat} (hj : mem j = .row 123 (cRd b p)) (hb : ∀ q, q ≤ 1000000 → RdOk b q) (hp : p + 20 ≤ 1000000) : aK Tryz.prog 91 [.ptr j 0] mem fun y m => y = vWts (jo b p).1 ∧ m = upd mem j (.row 123 (cRd b (jo b p).2)) :=
  aK.frame1 (news := []) 0 (NS b p hb hp) rfl hj rfl rfl (fun e he => by cases he) (fun i hi => absurd hi (Nat.not_lt_zero _)) (fun x hx => by rw [List.mem_singleton.1 hx]; exact jd (by decide)) (rd_h b p 1) (show HOk Tryz.prog _ from dF) (fun z hz => (rd_h b _ 1 z hz).1) (fun e he => by cases he)
theorem qf (c : List Int) (hc : CodeOk c) : Ok Tryz.prog 43 [.val c.length (c.map vU8)] (.tup [aN (lV c).1, vWts (lV c).2]) [] := by
  have hO := wQ c hc.len
  have hq := (jO (p := 0) hc.rd (by omega)).2
  have h3 : (limS (cut c) (aX (cut c) 0)).2 = (aX (cut c) 0).2 + 2 := rfl
  have hA : ∀ {mem : Mem}, mem 32784 = .row 123 (cRd (cut c) 0) → _ := fun {mem} hj => Ew (mem := mem) (j := 32784) (cut c) hj hc.rd (by omega)
  have hL : ∀ {mem : Mem}, mem 32784 = .row 123 (cRd (cut c) (aX (cut c) 0).2) → _ := fun {mem} hj => PI (mem := mem) (j := 32784) (cut c) (aX (cut c) 0) hj hc.rd (by omega)
  have hW : ∀ {mem : Mem}, mem 32784 = .row 123 (cRd (cut c) (limS (cut c) (aX (cut c) 0)).2) → _ := fun {mem} hj => NT (mem := mem) (j := 32784) (cut c) hj hc.rd (by omega)
  unfold lV
  dsimp only
  generalize jo (cut c) (limS (cut c) (aX (cut c) 0)).2 = Z at hW ⊢
  generalize aX (cut c) 0 = S at hA hL hW hq h3 ⊢
  generalize limS (cut c) S = S2 at hL hW ⊢
  rw [show c.take 2000 = cut c from rfl] at hO
  generalize cut c = b at hO hA hL hW
  refine stO Tryz.func43 [.cell 2 35, .tmp 3] 13 rfl rfl rfl ?_
  repeat' first | refine sS ?_ | ((with_reducible show aC ..); first | refine cM rfl rfl rfl rfl (hA (by simp only [upd]; rfl)) ?_ | refine cM rfl rfl rfl rfl (hL (by simp only [upd]; rfl)) ?_ | refine cM rfl rfl rfl rfl (hW (by simp only [upd]; rfl)) ?_ | refine cR rfl rfl rfl rfl hO ?_) | refine sO (fun K' hK' => ?_) | (refine sE hK' ?_; clear hK') | ((with_reducible first | refine En.ret ?_ | refine En.normal ?_); simp only [go_sem, Nat.reduceAdd, Nat.reduceMul, Nat.reduceEqDiff, Nat.reduceLT, Nat.reduceLeDiff]) | (simp only [go_sem, Nat.reduceAdd, Nat.reduceMul, Nat.reduceEqDiff, Nat.reduceLT, Nat.reduceLeDiff]; (all_goals fail_if_success show False)) | fail
  all_goals exact kp []
end Go.Proofs.YtknciobaifdafaaGreatDoor.T
