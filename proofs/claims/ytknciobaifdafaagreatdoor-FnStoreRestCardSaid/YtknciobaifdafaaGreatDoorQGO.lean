/- The draws of the store, walked, part 22: a drawn disk, often bent. -/
import Derived.Test.YtknciobaifdafaaGreatDoorQEZ
import Derived.Test.YtknciobaifdafaaGreatDoorQGN
import Derived.Laws.StructEq
set_option linter.unusedVariables false
set_option maxRecDepth 100000
set_option maxHeartbeats 4000000
set_option linter.unusedSimpArgs false
namespace Go.Pv
def qc : List Int := [0, 1, 22, 23, 24]
def AX (b : List Int) (S : Stor × Nat) : Dk :=
  if S.1.disk.cells.length = 42 ∧ ae b S.2 4 = 0 then
    ⟨S.1.disk.cells.set (qc.getD (ae b (S.2 + 1) 5).toNat 0).toNat (AP b (S.2 + 2) (cellAt S.1.disk.cells (qc.getD (ae b (S.2 + 1) 5).toNat 0).toNat)).1, S.1.disk.waits, S.1.disk.room, S.1.disk.left⟩
  else S.1.disk
def gu (c : List Int) : Dk := AX (cut c) (aX (cut c) 0)
theorem Lm (b : List Int) (S : Stor × Nat) : (AX b S).cells.length = S.1.disk.cells.length ∧ (AX b S).waits = S.1.disk.waits ∧ (AX b S).room = S.1.disk.room ∧ (AX b S).left = S.1.disk.left := by
  unfold AX
  split
  · exact ⟨List.length_set, rfl, rfl, rfl⟩
  · exact ⟨rfl, rfl, rfl, rfl⟩
end Go.Pv
namespace Go.Proofs.YtknciobaifdafaaGreatDoor.T
open Go Go.Pv Go.Proofs.YtknciobaifdafaaGreatDoor.EF
theorem I5 {xs : List PV} {K : PV → Prop} (h : K (.agg (xs.take 4))) : oV Tryz.prog 35 (.agg xs) 0 K := by
  have hu : Tryz.prog.underlying 35 = some (.struct (Tryz.prog.fieldsOf 35)) := by kernel_rfl
  have hf : ((Tryz.prog.fieldsOf 35)[0]?).map (fun f => (f.type, f.offset)) = some (33, 0) := by kernel_rfl
  unfold oV
  rw [hu]
  dsimp only
  cases h0 : (Tryz.prog.fieldsOf 35)[0]? with
  | none => rw [h0] at hf; cases hf
  | some fd =>
    rw [h0] at hf
    simp only [Option.map_some, Option.some.injEq, Prod.mk.injEq] at hf
    dsimp only
    rw [hf.1, hf.2, ti33]
    exact h
theorem Lp {b : List Int} {p : Nat} (hb : ∀ q, q ≤ 1000000 → RdOk b q) (hp : p + 1000 ≤ 1000000) : (kT b p → (aX b p).1.disk.cells.length = 41) ∧ (¬ kT b p → (aX b p).1.disk.cells.length = 42) := by
  obtain ⟨g1, g2⟩ := oO (b := b) (p := p) hb (by omega)
  obtain ⟨t0, gg⟩ := g1.good
  have glen := gg.len
  obtain ⟨_, _, gd, _⟩ := qI (b := b) (p := (fD b p).2 + 1) hb (by omega)
  unfold kT aX
  generalize fD b p = S at g1 g2 glen gd ⊢
  obtain ⟨s, q⟩ := S
  dsimp only at glen gd ⊢
  unfold xJ
  dsimp only
  generalize ae b q 24 = c
  refine ⟨fun ⟨h1, h2⟩ => ?_, fun h => ?_⟩
  · subst h1
    rw [if_neg (by decide), if_neg (by decide), if_neg (by decide), if_neg (by decide), if_pos rfl]
    unfold cO uS
    rw [if_pos h2]
    dsimp only
    rw [List.length_drop, gd]
  · split
    · exact glen
    · split
      · exact glen
      · split
        · exact glen
        · split
          · exact glen
          · split
            · rename_i h4
              have h2 : ¬ ae b (fO b (q + 1)).2 24 = 0 := fun e => h ⟨h4, e⟩
              unfold cO uS
              rw [if_neg h2]
              split
              · exact gd
              · split
                · exact gd
                · split
                  · dsimp only; rw [List.length_set]; exact gd
                  · split
                    · exact gd
                    · split <;> exact gd
            · split
              · dsimp only; rw [List.length_set]; exact glen
              · exact glen
theorem QY {mem : Mem} {j : Nat} (b : List Int) {p : Nat} (s : ByteArray) (hj : mem j = .row 123 (cRd b p)) (hb : ∀ q, q ≤ 1000000 → RdOk b q) (hp : p + 5 ≤ 1000000) (hs : s.size ≤ 2000) : aK Tryz.prog 71 [.ptr j 0, vS s] mem fun y m => y = vS (AP b p s).1 ∧ m = upd mem j (.row 123 (cRd b (AP b p s).2)) :=
  aK.frame1 (news := []) 0 (QV b p s hb hp hs) rfl hj rfl rfl (fun e he => by cases he) (fun i hi => absurd hi (Nat.not_lt_zero _)) (fun x hx => by
      simp only [List.mem_cons, List.not_mem_nil, or_false] at hx
      rcases hx with rfl | rfl
      · exact jd (by decide)
      · exact ⟨HOk.b _, trivial⟩) (rd_h b p 1) (show GOk Tryz.prog _ from HOk.b _) (fun z hz => (rd_h b _ 1 z hz).1) (fun e he => by cases he)
theorem yw (c : List Int) (hc : CodeOk c) : Ok Tryz.prog 30 [.val c.length (c.map vU8)] (vDk (gu c)) [] := by
  have hO := wQ c hc.len
  obtain ⟨hst, hq⟩ := jO (p := 0) hc.rd (by omega)
  have hsm := hst.disk.small
  obtain ⟨hs1, hs2⟩ := Lp (b := cut c) (p := 0) hc.rd (by omega)
  rw [show c.take 2000 = cut c from rfl] at hO
  have hA1 := fun h : kT (cut c) 0 => fun {mem : Mem} (hj : mem 32784 = .row 123 (cRd (cut c) 0)) => O8 (mem := mem) (j := 32784) (cut c) hj hc.rd (by omega) h
  have hA2 := fun h : ¬ kT (cut c) 0 => fun {mem : Mem} (hj : mem 32784 = .row 123 (cRd (cut c) 0)) (hK : mem 200 = .free) => Qy (mem := mem) (j := 32784) 200 (cut c) hj hK hc.rd (by omega) h
  have hrd := hc.rd
  unfold gu
  generalize hbv : cut c = b at hO hst hq hsm hs1 hs2 hA1 hA2 hrd ⊢
  generalize aX b 0 = S at hst hq hsm hs1 hs2 hA1 hA2 ⊢
  obtain ⟨s, q⟩ := S
  dsimp only at hq hsm hs1 hs2
  have hP : ∀ {mem : Mem}, mem 32784 = .row 123 (cRd b q) → _ := fun {mem} hj => gB (mem := mem) (j := 32784) b 4 hj (hrd q (by omega))
  unfold AX
  dsimp only
  by_cases hsh : kT b 0
  · have hlen := hs1 hsh
    replace hA1 := @hA1 hsh
    rw [if_neg (fun h => by omega)]
    refine stO Tryz.func30 [.cell 2 33] 35 rfl rfl rfl ?_
    repeat' first | refine sS ?_ | (with_reducible refine I5 ?_) | ((with_reducible show aC ..); first | refine cM rfl rfl rfl rfl (hA1 (by simp only [upd]; rfl)) ?_ | refine cR rfl rfl rfl rfl hO ?_) | refine sO (fun K' hK' => ?_) | refine sY ?_ | (refine sI (fun hg => ?_) (fun hg K' hK' => ?_) <;> try exact sZ hg) | (refine sE hK' ?_; clear hK') | (refine sD (fun hc => ?_) (fun hc => ?_) <;> try exact sZ hc) | ((with_reducible first | refine En.ret ?_ | refine En.normal ?_); simp only [go_sem, Nat.reduceAdd, Nat.reduceMul, Nat.reduceEqDiff, Nat.reduceLT, Nat.reduceLeDiff]) | (simp only [go_sem, Nat.reduceAdd, Nat.reduceMul, Nat.reduceEqDiff, Nat.reduceLT, Nat.reduceLeDiff]; (all_goals fail_if_success show False)) | fail
    all_goals exact kp []
  · have hlen := hs2 hsh
    replace hA2 := @hA2 hsh
    by_cases hp4 : ae b q 4 = 0
    · rw [if_pos ⟨hlen, hp4⟩]
      have hp5 := az (hrd (q + 1) (by omega)) (n := 5) (by omega)
      have hO5 : ∀ {mem : Mem} {k : Nat}, mem 32784 = .row 123 (cRd b (q + 1)) → mem k = .row 3 (qc.map vI) → _ := fun {mem k} hj hk => oneR (mem := mem) (j := 32784) (k := k) b qc hj hk (hrd (q + 1) (by omega)) (by decide) (by decide)
      have hin : ∃ k : Nat, qc.getD (ae b (q + 1) 5).toNat 0 = k ∧ k ≤ 24 := by
        have := (by decide : ∀ x ∈ qc, 0 ≤ x ∧ x ≤ 24) _ (getD_mem (l := qc) (k := (ae b (q + 1) 5).toNat) (d := 0) (by show (ae b (q + 1) 5).toNat < 5; omega))
        exact ⟨(qc.getD (ae b (q + 1) 5).toNat 0).toNat, by omega, by omega⟩
      rw [show (qc.length : Int) = 5 from rfl] at hO5
      obtain ⟨k, hk, hk24⟩ := hin
      rw [hk] at hO5 ⊢
      rw [Int.toNat_natCast]
      have hB : ∀ {m2 : Mem}, m2 32784 = .row 123 (cRd b (q + 2)) → _ := fun {m2} hj => QY (mem := m2) (j := 32784) b (cellAt s.disk.cells k) hj hrd (by omega) (by have := hsm k; omega)
      rw [show cellAt s.disk.cells k = s.disk.cells.getD k ByteArray.empty from rfl] at hB ⊢
      generalize AP b (q + 2) (s.disk.cells.getD k ByteArray.empty) = R at hB ⊢
      rw [hp4] at hP
      have hl : (s.disk.cells.set k R.1).length = s.disk.cells.length := List.length_set
      refine stO Tryz.func30 [.cell 2 33] 35 rfl rfl rfl ?_
      repeat' first | ((with_reducible show dw _ _ _ _ _ _ _ _ _ _ _ _); refine sC rfl rfl rfl rfl (fun m2 hm2 => hB hm2) ?_) | ((with_reducible show W _ _ (.region 5 _ _) _ _); refine dM 11 32784 [9] ?_) | refine sS ?_ | refine sN ?_ ?_ | (with_reducible refine I5 ?_) | ((with_reducible show aC ..); first | refine cM rfl rfl rfl rfl (hA2 (by simp only [upd]; rfl) (by simp only [upd]; rfl)) ?_ | refine cM rfl rfl rfl rfl (hP (by simp only [upd]; rfl)) ?_ | refine cM rfl rfl rfl rfl (hO5 (by simp only [upd]; rfl) (by simp only [upd]; rfl)) ?_ | refine cR rfl rfl rfl rfl hO ?_) | refine sO (fun K' hK' => ?_) | (refine sI (fun hg => ?_) (fun hg K' hK' => ?_) <;> try exact sZ hg) | refine yA (fun K' hA' => ?_) | (refine sE hK' ?_; clear hK') | (refine sE hA' ?_; clear hA') | (refine sD (fun hc => ?_) (fun hc => ?_) <;> try exact sZ hc) | refine sU ?_ ?_ | exact sX | ((with_reducible first | refine En.ret ?_ | refine En.normal ?_); simp only [go_sem, Nat.reduceAdd, Nat.reduceMul, Nat.reduceEqDiff, Nat.reduceLT, Nat.reduceLeDiff]) | (simp only [go_sem, Nat.reduceAdd, Nat.reduceMul, Nat.reduceEqDiff, Nat.reduceLT, Nat.reduceLeDiff]; (all_goals fail_if_success show False)) | fail
      rw [show (s.disk.cells.map vS).set k (.b (.string R.1)) = (s.disk.cells.set k R.1).map vS from dm]
      generalize s.disk.cells.set k R.1 = C at hl ⊢
      exact Weak.intro [] (by simp) (by simp) (by simp) rfl (by simp [All2, vw, vwA, vwC, kap, upd, ax, bu, vS, hl]) (fun _ h => h.elim)
    · rw [if_neg (fun h => hp4 h.2)]
      refine stO Tryz.func30 [.cell 2 33] 35 rfl rfl rfl ?_
      repeat' first | refine sS ?_ | (with_reducible refine I5 ?_) | ((with_reducible show aC ..); first | refine cM rfl rfl rfl rfl (hA2 (by simp only [upd]; rfl) (by simp only [upd]; rfl)) ?_ | refine cM rfl rfl rfl rfl (hP (by simp only [upd]; rfl)) ?_ | refine cR rfl rfl rfl rfl hO ?_) | refine sO (fun K' hK' => ?_) | (refine sI (fun hg => ?_) (fun hg K' hK' => ?_) <;> try exact sZ hg) | (refine sE hK' ?_; clear hK') | (refine sD (fun hc => ?_) (fun hc => ?_) <;> try exact sZ hc) | ((with_reducible first | refine En.ret ?_ | refine En.normal ?_); simp only [go_sem, Nat.reduceAdd, Nat.reduceMul, Nat.reduceEqDiff, Nat.reduceLT, Nat.reduceLeDiff]) | (simp only [go_sem, Nat.reduceAdd, Nat.reduceMul, Nat.reduceEqDiff, Nat.reduceLT, Nat.reduceLeDiff]; (all_goals fail_if_success show False)) | fail
      all_goals exact kp []
theorem G9 (c : List Int) (hc : CodeOk c) : Ok Tryz.prog 34 [.val c.length (c.map vU8)] (vDk (gu c)) [] := by
  have hD := yw c hc
  generalize gu c = d at hD ⊢
  refine stO Tryz.func34 [.cell 2 33] 5 rfl rfl rfl ?_
  repeat' first | refine sS ?_ | ((with_reducible show aC ..); refine cR rfl rfl rfl rfl hD ?_) | refine sO (fun K' hK' => ?_) | (refine sE hK' ?_; clear hK') | ((with_reducible first | refine En.ret ?_ | refine En.normal ?_); simp only [go_sem, Nat.reduceAdd, Nat.reduceMul, Nat.reduceLT, Nat.reduceLeDiff]) | (simp only [go_sem, Nat.reduceAdd, Nat.reduceMul, Nat.reduceLT, Nat.reduceLeDiff]; (all_goals fail_if_success show False)) | fail
  all_goals exact kp []
theorem AY {c : List Int} (hc : CodeOk c) : (gu c).cells.length ≤ 42 ∧ (gu c).waits.length ≤ 102 ∧ (-2 ≤ (gu c).room ∧ (gu c).room ≤ 10) ∧ -2 ≤ (gu c).left ∧ (gu c).left ≤ 12 := by
  obtain ⟨hst, hq⟩ := jO (p := 0) hc.rd (by omega)
  obtain ⟨h1, h2, h3, h4⟩ := Lm (cut c) (aX (cut c) 0)
  unfold gu
  rw [h1, h2, h3, h4]
  exact ⟨hst.disk.cells, hst.disk.waits, hst.disk.room, hst.disk.left⟩
end Go.Proofs.YtknciobaifdafaaGreatDoor.T
