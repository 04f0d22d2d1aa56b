/- Walks of the store's functions, part 5: heads and frames as texts. -/
import Derived.Test.YtknciobaifdafaaGreatDoorQEZ
import Derived.Test.YtknciobaifdafaaGreatDoorQS0
import Derived.Test.YtknciobaifdafaaGreatDoorQM
set_option linter.unusedVariables false
set_option maxRecDepth 100000
set_option linter.unusedSimpArgs false
set_option maxHeartbeats 4000000
namespace Go.Proofs.YtknciobaifdafaaGreatDoor.T
open Go Go.Pv Go.Proofs.YtknciobaifdafaaGreatDoor.EF
theorem Kw (b : Bool) : (gJ b).size = 1 := by cases b <;> rfl
theorem oH (n : Int) (h0 : -9223372036854775807 ≤ n) (h1 : n ≤ 9223372036854775807) : Ok Tryz.prog 133 [vI n] (vS (headB n)) [] := by
  have hs := bT n (by omega) (by omega)
  refine stO Tryz.func133 [.tmp 2] 11 rfl rfl rfl ?_
  repeat' first | refine sS ?_ | ((with_reducible show aC ..); refine cF rfl rfl rfl rfl (F6 _ h0 h1) ?_) | refine sO (fun K' hK' => ?_) | (refine sE hK' ?_; clear hK') | refine sU ?_ ?_ | exact sX | refine yM ?_ | fail
  exact Out.flat' rfl
theorem Jp (n : Int) (h0 : -9223372036854775807 ≤ n) (h1 : n ≤ 9223372036854775807) : Ok Tryz.prog 118 [vI n] (vS (headB n)) [] := by
  have hs := bT n (by omega) (by omega)
  refine stO Tryz.func118 [.tmp 2] 12 rfl rfl rfl ?_
  repeat' first | refine sS ?_ | ((with_reducible show aC ..); refine cF rfl rfl rfl rfl (Jo _ (by omega) (by omega)) ?_) | refine sO (fun K' hK' => ?_) | (refine sE hK' ?_; clear hK') | refine sU ?_ ?_ | exact sX | refine yM ?_ | fail
  exact Out.flat' rfl
theorem zH (turn tries place : Int) (last : Bool) (p : Wt) (h1 : -1 ≤ turn ∧ turn ≤ 1000000000) (h2 : -1 ≤ tries ∧ tries ≤ 1000000000) (h3 : 0 ≤ place ∧ place ≤ 1000) (h4 : 0 ≤ p.cell ∧ p.cell ≤ 1000) (h5 : p.text.size ≤ 1000000) :
    Ok Tryz.prog 141 [vI turn, vI tries, vI place, vB last, vWt p] (vS (di turn tries place p.cell last p.text)) [] := by
  have s1 := bT turn (by omega) (by omega)
  have s2 := bT tries (by omega) (by omega)
  have s3 := bT place (by omega) (by omega)
  have s4 := bT p.cell (by omega) (by omega)
  have s5 := bT p.text.size (by omega) (by omega)
  have s6 := Kw last
  refine stO Tryz.func141 [.tmp 10] 51 rfl rfl rfl ?_
  repeat' first | refine sS ?_ | ((with_reducible show uC ..); first | refine uF rfl rfl rfl rfl (OL _) ?_ | refine uF rfl rfl rfl rfl (F6 _ (by omega) (by omega)) ?_) | refine sO (fun K' hK' => ?_) | refine yA (fun K' hA' => ?_) | ((with_reducible show W _ _ (.region 2 _ _) _ _); refine sV 15 ?_) | ((with_reducible show W _ _ (.region 1 _ _) _ _); refine sV 26 ?_) | (refine sE hK' ?_; clear hK') | (refine sE hA' ?_; clear hA') | refine sU ?_ ?_ | exact sX | refine yM ?_ | fail
  exact Out.flat' rfl
end Go.Proofs.YtknciobaifdafaaGreatDoor.T
set_option linter.unusedVariables false
set_option maxRecDepth 100000
set_option maxHeartbeats 1000000
set_option linter.unusedSimpArgs false
namespace Go.Proofs.YtknciobaifdafaaGreatDoor.T
open Go Go.Pv Go.Proofs.YtknciobaifdafaaGreatDoor.EF
theorem ry (s : ByteArray) (place : Int) (hs : s.size ≤ 1000000) : Ok Tryz.prog 124 [vS s, vI place] (vI (aA s place)) [] := by
  have hz : s.data.toList.length = s.size := rfl
  have hsz : (s.extract 1 s.size).size ≤ 1000000 := by rw [ByteArray.size_extract]; omega
  have hcut : Ok Tryz.prog 159 [vS (s.extract 1 s.size), .b (.int .u8 46), vI 1] (.val (cutL (s.extract 1 s.size) 46 1).length ((cutL (s.extract 1 s.size) 46 1).map vS)) [] := vV _ 46 1 hsz (by omega)
  have hp := zq (s.extract 1 s.size) 46 1
  have hy := Nat.le_trans (qU (s.extract 1 s.size) 46 1 0) hsz
  unfold aA
  generalize cutL (s.extract 1 s.size) 46 1 = l at hcut hp hy ⊢
  obtain ⟨n, hn⟩ : ∃ n, n = numL (l.getD 0 ByteArray.empty).data.toList := ⟨_, rfl⟩
  have hnum : Ok Tryz.prog 158 [vS (l.getD 0 ByteArray.empty)] (vI n) [] := hn ▸ zF _ (Nat.le_trans hy (by decide))
  rw [← hn]
  obtain ⟨F, hF⟩ : ∃ F : Int → ByteArray, F = headB := ⟨_, rfl⟩
  have hh : 1 ≤ n → n ≤ 99999 → Ok Tryz.prog 133 [vI n] (vS (F n)) [] := fun h1 h2 => hF ▸ oH n (by omega) (by omega)
  unfold BN
  have e72 : s.data.toList.getD 0 0 = 72 ↔ ((s.data.toList.getD 0 0).toNat : Int) = 72 := ⟨fun h => by rw [h]; rfl, fun h => UInt8.toNat_inj.1 (by show _ = 72; omega)⟩
  rw [← hF]; simp only [e72]
  refine stO Tryz.func124 [.tmp 4] 39 rfl rfl rfl ?_
  repeat' first | refine sS ?_ | refine sN ?_ ?_ | ((with_reducible show aC ..); first | refine cF rfl rfl rfl rfl hnum ?_ | refine cF rfl rfl rfl rfl (hh (by omega) (by omega)) ?_ | refine cR rfl rfl rfl rfl hcut ?_) | refine sO (fun K' hK' => ?_) | refine sY ?_ | (refine sI (fun hg => ?_) (fun hg K' hK' => ?_) <;> try exact sZ hg) | (refine sE hK' ?_; clear hK') | (refine sD (fun hc => ?_) (fun hc => ?_) <;> try exact sZ hc) | refine sU ?_ ?_ | exact sX | refine yM ?_ | fail
  all_goals exact Out.flat' (congrArg (Value.int .i64) (by (repeat' split) <;> first | rfl | omega | (exfalso; simp_all; omega) | (exfalso; simp_all)))
theorem Qj (s : ByteArray) (hs : s.size ≤ 1000000) : Ok Tryz.prog 120 [vS s] (vI (numI s)) [] := by
  by_cases h : ∃ v, Lib.atoiAll s.data.toList = .ok v
  · obtain ⟨v, hv⟩ := h
    have hn : numI s = v := by unfold numI; rw [hv]
    rw [hn]
    refine stO Tryz.func120 [.tmp 2] 13 rfl rfl rfl ?_
    repeat' first | refine sS ?_ | ((with_reducible show aC ..); refine cR rfl rfl rfl rfl (Cj s (by omega) v hv) ?_) | refine sO (fun K' hK' => ?_) | (refine sE hK' ?_; clear hK') | (refine sD (fun hc => ?_) (fun hc => ?_) <;> try exact sZ hc) | refine yM ?_ | fail
    exact Out.flat' rfl
  · have hv : ∀ v, Lib.atoiAll s.data.toList ≠ .ok v := fun v e => h ⟨v, e⟩
    have hn : numI s = -1 := by
      unfold numI
      split
      · exact absurd ‹_› (hv _)
      · rfl
    rw [hn]
    refine stO Tryz.func120 [.tmp 2] 13 rfl rfl rfl ?_
    repeat' first | refine sS ?_ | ((with_reducible show aC ..); refine cR rfl rfl rfl rfl (F5 s (by omega) hv) ?_) | refine sO (fun K' hK' => ?_) | (refine sE hK' ?_; clear hK') | (refine sD (fun hc => ?_) (fun hc => ?_) <;> try exact sZ hc) | refine yM ?_ | fail
    exact Out.flat' rfl
theorem Ky (s : ByteArray) (hs : s.size ≤ 1000000) : Ok Tryz.prog 75 [vS s] (vI (jH s)) [] := by
  have h1 := MK (trimB s ⟨#[72]⟩) ⟨#[46]⟩ (by have := zu s ⟨#[72]⟩; omega)
  have h2 := Nat.le_trans (zt (trimB s ⟨#[72]⟩) ⟨#[46]⟩) (zu _ _)
  have h3 := OI s ⟨#[72]⟩
  unfold jH
  generalize trimB s ⟨#[72]⟩ = x at h1 h2 h3 ⊢
  generalize cutB x ⟨#[46]⟩ = y at h1 h2 ⊢
  obtain ⟨x1, x2, x3⟩ := y
  dsimp only at h1 h2 ⊢
  obtain ⟨F, hF⟩ : ∃ F : Int → ByteArray, F = headB := ⟨_, rfl⟩
  by_cases h : ∃ v, Lib.atoiAll x1.data.toList = .ok v
  · obtain ⟨v, hv⟩ := h
    have hn : numI x1 = v := by unfold numI; rw [hv]
    have hh : 1 ≤ v → v ≤ 99999 → Ok Tryz.prog 118 [vI v] (vS (F v)) [] := fun h1 h2 => hF ▸ Jp v (by omega) (by omega)
    unfold BO
    rw [hn, ← hF]
    refine stO Tryz.func75 [.tmp 2] 34 rfl rfl rfl ?_
    repeat' first | refine sS ?_ | ((with_reducible show aC ..); first | refine cF rfl rfl rfl rfl h3 ?_ | refine cF rfl rfl rfl rfl h1 ?_ | refine cF rfl rfl rfl rfl (Cm _ _ _) ?_ | refine cF rfl rfl rfl rfl (hh (by omega) (by omega)) ?_ | refine cR rfl rfl rfl rfl (Cj x1 (by omega) v hv) ?_) | refine sO (fun K' hK' => ?_) | refine sY ?_ | (refine sI (fun hg => ?_) (fun hg K' hK' => ?_) <;> try exact sZ hg) | (refine sE hK' ?_; clear hK') | (refine sD (fun hc => ?_) (fun hc => ?_) <;> try exact sZ hc) | refine yM ?_ | fail
    all_goals exact Out.flat' (congrArg (Value.int .i64) (by (repeat' split) <;> first | rfl | omega | (exfalso; simp_all; omega) | (exfalso; simp_all)))
  · have hv : ∀ v, Lib.atoiAll x1.data.toList ≠ .ok v := fun v e => h ⟨v, e⟩
    have hn : numI x1 = -1 := by
      unfold numI
      split
      · exact absurd ‹_› (hv _)
      · rfl
    unfold BO
    rw [hn]
    refine stO Tryz.func75 [.tmp 2] 34 rfl rfl rfl ?_
    repeat' first | refine sS ?_ | ((with_reducible show aC ..); first | refine cF rfl rfl rfl rfl h3 ?_ | refine cF rfl rfl rfl rfl h1 ?_ | refine cR rfl rfl rfl rfl (F5 x1 (by omega) hv) ?_) | refine sO (fun K' hK' => ?_) | refine sY ?_ | (refine sE hK' ?_; clear hK') | (refine sD (fun hc => ?_) (fun hc => ?_) <;> try exact sZ hc) | refine yM ?_ | fail
    exact Out.flat' rfl
end Go.Proofs.YtknciobaifdafaaGreatDoor.T
set_option linter.unusedVariables false
set_option maxRecDepth 100000
set_option maxHeartbeats 4000000
set_option linter.unusedSimpArgs false
namespace Go.Proofs.YtknciobaifdafaaGreatDoor.T
open Go Go.Pv Go.Proofs.YtknciobaifdafaaGreatDoor.EF
theorem QM (s : ByteArray) (hs : s.size ≤ 1000000) : Ok Tryz.prog 159 [vS s, .b (.int .u8 58), vI 1] (.val (cutL s 58 1).length ((cutL s 58 1).map vS)) [] := vV s 58 1 hs (by omega)
theorem QN (s : ByteArray) (hs : s.size ≤ 1000000) : Ok Tryz.prog 159 [vS s, .b (.int .u8 32), vI 5] (.val (cutL s 32 5).length ((cutL s 32 5).map vS)) [] := vV s 32 5 hs (by omega)
theorem QO {a0 a1 a2 a3 a4 a5 : Nat} (h0 : a0 ≤ 1000000) (h1 : a1 ≤ 1000000) (h2 : a2 ≤ 1000000) (h3 : a3 ≤ 1000000) (h4 : a4 ≤ 1000000) (h5 : a5 ≤ 1000000) :
    IntKind.i64.wrap (IntKind.i64.wrap (IntKind.i64.wrap (IntKind.i64.wrap (IntKind.i64.wrap (IntKind.i64.wrap ((a0 : Int) + a1) + a2) + a3) + a4) + a5) + 6) = ((a0 + a1 + a2 + a3 + a4 + a5 + 6 : Nat) : Int) := by
  rw [af (x := (a0 : Int) + a1) (by omega) (by omega), af (x := (a0 : Int) + a1 + a2) (by omega) (by omega), af (x := (a0 : Int) + a1 + a2 + a3) (by omega) (by omega), af (x := (a0 : Int) + a1 + a2 + a3 + a4) (by omega) (by omega),
    af (x := (a0 : Int) + a1 + a2 + a3 + a4 + a5) (by omega) (by omega), af (by omega) (by omega)]
  omega
theorem Out.tupW (n : Int) (b : Bool) (x : Wt) {m : Mem} : Out Tryz.prog (.tup [vI n, vB b, vWt x]) [] (.tup [vI n, vB b, vWt x]) m := by
  exact kp []
theorem F7 (turn tries place cell : Int) (last : Bool) (text : ByteArray) (h1 : -1 ≤ turn ∧ turn ≤ 1000000000) (h2 : -1 ≤ tries ∧ tries ≤ 1000000000) (h3 : 0 ≤ place ∧ place ≤ 1000) (h4 : 0 ≤ cell ∧ cell ≤ 1000) (h5 : text.size ≤ 1000000) :
    Ok Tryz.prog 141 [vI turn, vI tries, vI place, vB last, .agg [vI cell, vS text]] (vS (di turn tries place cell last text)) [] := zH turn tries place last ⟨cell, text⟩ h1 h2 h3 h4 h5
theorem zI (s : ByteArray) (turn place : Int) (hs : s.size ≤ 1000000) (h1 : -1 ≤ turn ∧ turn ≤ 1000000000) (h3 : 0 ≤ place ∧ place ≤ 1000) :
    Ok Tryz.prog 160 [vS s, vI turn, vI place] (.tup [vI (fK s turn place).1, vB (fK s turn place).2.1, vWt (fK s turn place).2.2]) [] := by
  unfold fK
  have hp := zq s 58 1
  have hz := Nat.le_trans (qU s 58 1 0) hs
  have hy : ∀ k, ((partsOf s).getD k ByteArray.empty).size ≤ 1000000 := fun k => Nat.le_trans (qU _ 32 5 k) hz
  have hl := QN _ hz
  rw [show cutL ((cutL s 58 1).getD 0 ByteArray.empty) 32 5 = partsOf s from rfl] at hl
  generalize partsOf s = l at hl hy ⊢
  refine stO Tryz.func160 [.tmp 6, .tmp 7, .cell 8 77] 113 rfl rfl rfl ?_
  have h6 : _ = (sizes6 l : Int) := QO (hy 0) (hy 1) (hy 2) (hy 3) (hy 4) (hy 5)
  have hw : ∀ z : Int, 0 ≤ z ∧ z ≤ 1100 → IntKind.i64.wrap ((sizes6 l : Int) + z) = sizes6 l + z := fun z hz => by
    have : sizes6 l ≤ 7000000 := by unfold sizes6; have := hy 0; have := hy 1; have := hy 2; have := hy 3; have := hy 4; have := hy 5; omega
    rw [af (by omega) (by omega)]
  obtain ⟨F, hF⟩ : ∃ F : Int → Int → Int → Int → Bool → ByteArray → ByteArray, F = di := ⟨_, rfl⟩
  have hfr : ∀ (tries cell : Int) (last : Bool) (text : ByteArray), (-1 ≤ tries ∧ tries ≤ 1000000000) → (0 ≤ cell ∧ cell ≤ 1000) → text.size ≤ 1000000 → Ok Tryz.prog 141 [vI turn, vI tries, vI place, vB last, .agg [vI cell, vS text]] (vS (F turn tries place cell last text)) [] := fun tries cell last text a b c =>
    hF ▸ F7 turn tries place cell last text h1 a h3 b c
  repeat' first | refine sS ?_ | refine sN ?_ ?_ | ((with_reducible show aC ..); first | refine cF rfl rfl rfl rfl (zF _ (Nat.le_trans (hy _) (by decide))) ?_ | refine cF rfl rfl rfl rfl (pz _ _ _) ?_ | refine cF rfl rfl rfl rfl (hfr _ _ _ _ (by omega) (by omega) (by simp only [ByteArray.size_extract]; omega)) ?_ | refine cR rfl rfl rfl rfl (QM s hs) ?_ | refine cR rfl rfl rfl rfl hl ?_) | refine sO (fun K' hK' => ?_) | refine sY ?_ | (refine sI (fun hg => ?_) (fun hg K' hK' => ?_) <;> try exact sZ hg) | refine yA (fun K' hA' => ?_) | ((with_reducible show W _ _ (.region 14 _ _) _ _); refine sV 5 ?_) | ((with_reducible show W _ _ (.region 7 _ _) _ _); refine sV 31 ?_) | (refine sE hK' ?_; clear hK') | (refine sE hA' ?_; clear hA') | (refine sD (fun hc => ?_) (fun hc => ?_) <;> try exact sZ hc) | refine sU ?_ ?_ | exact sX | refine yM ?_ | fail
  · rw [show getL s turn place l = (0, false, wt0) by unfold getL; rw [if_pos (by omega)]]
    exact Out.tupW 0 false wt0
  · rw [show getL s turn place l = (0, false, wt0) by unfold getL; rw [if_neg (by omega), if_pos (.inl hg)]]
    exact Out.tupW 0 false wt0
  · rw [show getL s turn place l = (0, false, wt0) by unfold getL; rw [if_neg (by omega), if_pos (.inr (.inl hg))]]
    exact Out.tupW 0 false wt0
  · rw [show getL s turn place l = (0, false, wt0) by unfold getL; rw [if_neg (by omega), if_pos (.inr (.inr (.inl hg)))]]
    exact Out.tupW 0 false wt0
  · rw [h6, hw _ hg] at hc
    rw [show getL s turn place l = (0, false, wt0) by unfold getL; rw [if_neg (by omega), if_pos (.inr (.inr (.inr hc)))]]
    exact Out.tupW 0 false wt0
  all_goals try rw [h6] at *
  all_goals try rw [hw _ hg] at *
  · omega
  · rw [Int.toNat_natCast, show ((sizes6 l : Int) + numL (l.getD 5 ByteArray.empty).data.toList).toNat = sizes6 l + (numL (l.getD 5 ByteArray.empty).data.toList).toNat by omega, hF] at hc
    rw [show getL s turn place l = (0, false, wt0) by unfold getL; rw [if_neg (by omega), if_neg (by unfold numAt; omega)]; exact if_pos hc]
    exact Out.tupW 0 false wt0
  · rw [Int.toNat_natCast, show ((sizes6 l : Int) + numL (l.getD 5 ByteArray.empty).data.toList).toNat = sizes6 l + (numL (l.getD 5 ByteArray.empty).data.toList).toNat by omega] at *
    rw [hF] at hc
    unfold getL
    rw [if_neg (by omega), if_neg (by unfold numAt; omega), if_neg (fun h => h hc)]
    exact Out.tupW _ _ ⟨_, _⟩
end Go.Proofs.YtknciobaifdafaaGreatDoor.T
set_option linter.unusedVariables false
set_option maxRecDepth 100000
set_option linter.unusedSimpArgs false
set_option maxHeartbeats 4000000
namespace Go.Proofs.YtknciobaifdafaaGreatDoor.T
open Go Go.Pv Go.Proofs.YtknciobaifdafaaGreatDoor.EF
abbrev vFr (f : Fr) : PV := .agg [vI f.turn, vI f.tries, vI f.place, vI f.cell, vB f.last, vS f.text]
theorem Eb (f : Fr) (h1 : 0 ≤ f.turn ∧ f.turn ≤ 1000000000) (h2 : 0 ≤ f.tries ∧ f.tries ≤ 1000000000) (h3 : 0 ≤ f.place ∧ f.place ≤ 1000) (h4 : 0 ≤ f.cell ∧ f.cell ≤ 1000) (h5 : f.text.size ≤ 1000000) :
    Ok Tryz.prog 100 [vFr f] (vS (frOf f)) [] := by
  have s1 := bT f.turn (by omega) (by omega)
  have s2 := bT f.tries (by omega) (by omega)
  have s3 := bT f.place (by omega) (by omega)
  have s4 := bT f.cell (by omega) (by omega)
  have s5 := bT f.text.size (by omega) (by omega)
  have hj : ∀ mark : ByteArray, mark.size = 1 → (Lib.join ([aI f.turn, aI f.tries, aI f.place, aI f.cell, mark, aI f.text.size].map (·.data.toList)) (⟨#[32]⟩ : ByteArray).data.toList).length ≤ 140737488355328 := fun mark hm => by
    have e := congrArg ByteArray.size (oZ (aI f.turn) (aI f.tries) (aI f.place) (aI f.cell) mark (aI f.text.size))
    simp only [ByteArray.size_append, gK, List.size_toArray, List.length_cons, List.length_nil] at e
    have e2 : (BM [aI f.turn, aI f.tries, aI f.place, aI f.cell, mark, aI f.text.size] ⟨#[32]⟩).size = (Lib.join ([aI f.turn, aI f.tries, aI f.place, aI f.cell, mark, aI f.text.size].map (·.data.toList)) (⟨#[32]⟩ : ByteArray).data.toList).length := by
      unfold BM; rfl
    omega
  have hjs : ∀ mark : ByteArray, mark.size = 1 → (BM [aI f.turn, aI f.tries, aI f.place, aI f.cell, mark, aI f.text.size] ⟨#[32]⟩).size ≤ 200 := fun mark hm => by
    have e := congrArg ByteArray.size (oZ (aI f.turn) (aI f.tries) (aI f.place) (aI f.cell) mark (aI f.text.size))
    simp only [ByteArray.size_append, gK, List.size_toArray, List.length_cons, List.length_nil] at e
    omega
  have hm1 := hjs ⟨#[33]⟩ rfl
  have hm2 := hjs ⟨#[45]⟩ rfl
  refine stO Tryz.func100 [.tmp 2] 42 rfl rfl rfl ?_
  repeat' first | refine sS ?_ | ((with_reducible show uC ..); first | refine uM rfl rfl rfl rfl ((fun m2 hx => OJ (l := [aI f.turn, aI f.tries, aI f.place, aI f.cell, _, aI f.text.size]) ((hx _ (by simp [upd])).trans (by simp only [upd]; rfl)) rfl (by decide) (by simp) (hj _ rfl))) ?_ | refine uF rfl rfl rfl rfl (Jo _ (by omega) (by omega)) ?_) | refine sO (fun K' hK' => ?_) | refine yA (fun K' hA' => ?_) | ((with_reducible show W _ _ (.region 6 _ _) _ _); refine sV 14 ?_) | ((with_reducible show W _ _ (.region 5 _ _) _ _); refine sV 15 ?_) | ((with_reducible show W _ _ (.region 4 _ _) _ _); refine sV 8 ?_) | (refine sE hK' ?_; clear hK') | (refine sE hA' ?_; clear hA') | (refine sD (fun hc => ?_) (fun hc => ?_) <;> try exact sZ hc) | refine sU ?_ ?_ | exact sX | refine yM ?_ | fail
  · exact Out.flat' (by unfold frOf di dU; rw [oZ, hc]; rfl)
  · exact Out.flat' (by unfold frOf di dU; rw [oZ, hc]; rfl)
end Go.Proofs.YtknciobaifdafaaGreatDoor.T
set_option linter.unusedVariables false
set_option maxRecDepth 100000
set_option maxHeartbeats 4000000
set_option linter.unusedSimpArgs false
namespace Go.Proofs.YtknciobaifdafaaGreatDoor.T
open Go Go.Pv Go.Proofs.YtknciobaifdafaaGreatDoor.EF
theorem Out.tupF (f : Fr) (b : Bool) {m : Mem} : Out Tryz.prog (.tup [vFr f, vB b]) [] (.tup [vFr f, vB b]) m := by
  exact kp []
theorem Io (s : ByteArray) (place : Int) (hs : s.size ≤ 1000000) (h3 : 0 ≤ place ∧ place ≤ 1000) :
    Ok Tryz.prog 76 [vS s, vI place] (.tup [vFr (jG s place).1, vB (jG s place).2]) [] := by
  have h1 := MK s ⟨#[58]⟩ (by omega)
  have hz1 := Nat.le_trans (zt s ⟨#[58]⟩) hs
  have hz2 := Nat.le_trans (H7 s ⟨#[58]⟩) hs
  unfold jG
  generalize cutB s ⟨#[58]⟩ = y at h1 hz1 hz2 ⊢
  obtain ⟨x1, x2, x3⟩ := y
  dsimp only at hz1 hz2 ⊢
  have h2 := split_ok x1 ⟨#[32]⟩ (by omega) (by decide)
  have hy : ∀ k, ((jA x1 ⟨#[32]⟩).getD k ByteArray.empty).size ≤ 1000000 := fun k => Nat.le_trans (Fp _ _ k) hz1
  generalize jA x1 ⟨#[32]⟩ = w at h2 hy ⊢
  obtain ⟨N, hN⟩ : ∃ N : ByteArray → Int, N = numI := ⟨_, rfl⟩
  have hn : ∀ k, Ok Tryz.prog 120 [vS (w.getD k ByteArray.empty)] (vI (N (w.getD k ByteArray.empty))) [] := fun k => hN ▸ Qj _ (hy k)
  obtain ⟨F, hF⟩ : ∃ F : Fr → ByteArray, F = frOf := ⟨_, rfl⟩
  have hfr : ∀ (turn tries place cell : Int) (last : Bool) (text : ByteArray), (0 ≤ turn ∧ turn ≤ 1000000000) → (0 ≤ tries ∧ tries ≤ 1000000000) → (0 ≤ place ∧ place ≤ 1000) → (0 ≤ cell ∧ cell ≤ 1000) → text.size ≤ 1000000 → Ok Tryz.prog 100 [.agg [vI turn, vI tries, vI place, vI cell, vB last, vS text]] (vS (F ⟨turn, tries, place, cell, last, text⟩)) [] := fun turn tries place cell last text a b c d e =>
    hF ▸ Eb ⟨turn, tries, place, cell, last, text⟩ a b c d e
  unfold frL
  rw [← hN, ← hF]
  refine stO Tryz.func76 [.cell 4 97, .tmp 5] 95 rfl rfl rfl ?_
  repeat' first | refine yQ ?_ | ((with_reducible show W _ _ (.region 11 _ _) _ _); refine dS 7 5 16384 ?_) | refine sS ?_ | refine sN ?_ ?_ | ((with_reducible show aC ..); first | refine cF rfl rfl rfl rfl h1 ?_ | refine cF rfl rfl rfl rfl (hn _) ?_ | refine cF rfl rfl rfl rfl (Cm _ _ _) ?_) | ((with_reducible show uC ..); first | refine uF rfl rfl rfl rfl (hn _) ?_ | refine uF rfl rfl rfl rfl (hfr _ _ _ _ _ _ (by omega) (by omega) (by omega) (by omega) (by simp only [ByteArray.size_extract]; omega)) ?_) | ((with_reducible show aC ..); refine cR rfl rfl rfl rfl h2 ?_) | refine sO (fun K' hK' => ?_) | refine sY ?_ | (refine sI (fun hg => ?_) (fun hg K' hK' => ?_) <;> try exact sZ hg) | refine yA (fun K' hA' => ?_) | ((with_reducible show W _ _ (.region 7 _ _) _ _); refine sV 26 ?_) | (refine sE hK' ?_; clear hK') | (refine sE hA' ?_; clear hA') | (refine sD (fun hc => ?_) (fun hc => ?_) <;> try exact sZ hc) | refine sU ?_ ?_ | exact sX | refine yM ?_ | fail
  · rw [if_pos (by omega)]; exact Out.tupF fr0 false
  all_goals rw [if_neg (by omega)]
  all_goals first | (rw [if_pos (by omega)]; exact Out.tupF fr0 false) | skip
  all_goals rw [if_neg (by omega)]
  all_goals exact Out.tupF _ _
end Go.Proofs.YtknciobaifdafaaGreatDoor.T
