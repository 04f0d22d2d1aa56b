/- The draws of the store, walked, part 24: what is drawn of a fall. -/
import Derived.Test.YtknciobaifdafaaGreatDoorQEZ
import Derived.Test.YtknciobaifdafaaGreatDoorQGN
import Derived.Test.YtknciobaifdafaaGreatDoorQGI
set_option linter.unusedVariables false
set_option maxRecDepth 100000
set_option maxHeartbeats 4000000
set_option linter.unusedSimpArgs false
namespace Go.Pv
def crL1 (b : List Int) (q : Nat) : List Int := [kD b q, kD b (q + 4), kD b (q + 8), -1]
def crL2 (b : List Int) (q : Nat) : List Int := [-1, 0, 1, 2, 3, 5, 8, 100, ae b q 30]
def nY (b : List Int) (q : Nat) : Int × Int × Int := ((crL1 b q).getD (ae b (q + 12) 4).toNat 0, ae b (q + 13) 8 - 1, (crL2 b (q + 14)).getD (ae b (q + 15) 9).toNat 0)
def uT (c : List Int) : Dk × Int × Int × Int := ((cO (cut c) 0).1, nY (cut c) (cO (cut c) 0).2)
theorem NZ {b : List Int} {q : Nat} (hb : ∀ k, k ≤ 1000000 → RdOk b k) (hq : q + 20 ≤ 1000000) : (-1 ≤ (nY b q).1 ∧ (nY b q).1 ≤ 9223372036854775807) ∧ (-1 ≤ (nY b q).2.1 ∧ (nY b q).2.1 ≤ 10) ∧ -1 ≤ (nY b q).2.2 ∧ (nY b q).2.2 ≤ 1000 := by
  have m1 := wL (p := q) (hb q (by omega)) (by omega)
  have m2 := wL (p := q + 4) (hb (q + 4) (by omega)) (by omega)
  have m3 := wL (p := q + 8) (hb (q + 8) (by omega)) (by omega)
  have k1 := az (hb (q + 12) (by omega)) (n := 4) (by omega)
  have k2 := az (hb (q + 13) (by omega)) (n := 8) (by omega)
  have k3 := az (hb (q + 14) (by omega)) (n := 30) (by omega)
  have k4 := az (hb (q + 15) (by omega)) (n := 9) (by omega)
  have e1 : ∀ x ∈ crL1 b q, -1 ≤ x ∧ x ≤ 9223372036854775807 := fun x hx => by
    simp only [crL1, List.mem_cons, List.not_mem_nil, or_false] at hx
    omega
  have e2 : ∀ x ∈ crL2 b (q + 14), -1 ≤ x ∧ x ≤ 1000 := fun x hx => by
    simp only [crL2, List.mem_cons, List.not_mem_nil, or_false] at hx
    omega
  exact ⟨e1 _ (getD_mem (by show (ae b (q + 12) 4).toNat < 4; omega)), by unfold nY; dsimp only; omega, e2 _ (getD_mem (by show (ae b (q + 15) 9).toNat < 9; omega))⟩
end Go.Pv
namespace Go.Proofs.YtknciobaifdafaaGreatDoor.T
open Go Go.Pv Go.Proofs.YtknciobaifdafaaGreatDoor.EF
theorem QC (b : List Int) (p : Nat) (hb : ∀ q, q ≤ 1000000 → RdOk b q) (hp : p + 1000 ≤ 1000000) : OkS Tryz.prog 88 [.ptr 0 0] [(123, cRd b p)] (fun i => i = 0) (vDk (cO b p).1) [(123, cRd b (cO b p).2)] := by
  by_cases hns : ae b (fO b p).2 24 = 0
  · exact NG b p hb (by omega) hns
  · refine (NF b p hb (by omega) hns).weak ?_
    generalize cO b p = S
    simp only [aH]
    exact kp [⟨0, 0, 123, (cRd b S.2)⟩]
theorem Pi {mem : Mem} {j : Nat} (b : List Int) {p : Nat} (hj : mem j = .row 123 (cRd b p)) (hb : ∀ q, q ≤ 1000000 → RdOk b q) (hp : p + 1000 ≤ 1000000) : aK Tryz.prog 88 [.ptr j 0] mem fun y m => y = vDk (cO b p).1 ∧ m = upd mem j (.row 123 (cRd b (cO b p).2)) :=
  aK.frame1 (news := []) 0 (QC b p hb hp) rfl hj rfl rfl (fun e he => by cases he) (fun i hi => absurd hi (Nat.not_lt_zero _)) (fun x hx => by rw [List.mem_singleton.1 hx]; exact jd (by decide)) (rd_h b p 1) (show GOk Tryz.prog _ from fun z hz => by
      simp only [List.mem_cons, List.not_mem_nil, or_false] at hz
      rcases hz with rfl | rfl | rfl | rfl <;> first | exact HOk.b _ | exact dF | exact dB) (fun z hz => (rd_h b _ 1 z hz).1) (fun e he => by cases he)
theorem ED (c : List Int) (hc : CodeOk c) : Ok Tryz.prog 41 [.val c.length (c.map vU8)] (.tup [vDk (uT c).1, vI (uT c).2.1, vI (uT c).2.2.1, vI (uT c).2.2.2]) [] := by
  have hO := wQ c hc.len
  have hq := (xK (p := 0) hc.rd (by omega)).2
  have hA : ∀ {mem : Mem}, mem 32784 = .row 123 (cRd (cut c) 0) → _ := fun {mem} hj => Pi (mem := mem) (j := 32784) (cut c) hj hc.rd (by omega)
  have hrd := hc.rd
  unfold uT
  generalize cO (cut c) 0 = S at hA hq ⊢
  rw [show c.take 2000 = cut c from rfl] at hO
  generalize cut c = b at hO hA hrd ⊢
  obtain ⟨d, q⟩ := S
  dsimp only at hA hq ⊢
  have h13 := az (hrd (q + 13) (by omega)) (n := 8) (by omega)
  have hM1 : ∀ {mem : Mem}, mem 32784 = .row 123 (cRd b q) → _ := fun {mem} hj => Jz (mem := mem) (j := 32784) b hj (hrd _ (by omega)) (by omega)
  have hM2 : ∀ {mem : Mem}, mem 32784 = .row 123 (cRd b (q + 4)) → _ := fun {mem} hj => Jz (mem := mem) (j := 32784) b hj (hrd _ (by omega)) (by omega)
  have hM3 : ∀ {mem : Mem}, mem 32784 = .row 123 (cRd b (q + 8)) → _ := fun {mem} hj => Jz (mem := mem) (j := 32784) b hj (hrd _ (by omega)) (by omega)
  have hP1 : ∀ {mem : Mem}, mem 32784 = .row 123 (cRd b (q + 13)) → _ := fun {mem} hj => gB (mem := mem) (j := 32784) b 8 hj (hrd _ (by omega))
  have hP2 : ∀ {mem : Mem}, mem 32784 = .row 123 (cRd b (q + 14)) → _ := fun {mem} hj => gB (mem := mem) (j := 32784) b 30 hj (hrd _ (by omega))
  have hO1 : ∀ {mem : Mem} {k : Nat}, mem 32784 = .row 123 (cRd b (q + 12)) → mem k = .row 3 ((crL1 b q).map vI) → _ := fun {mem k} hj hk => oneR (mem := mem) (j := 32784) (k := k) b (crL1 b q) hj hk (hrd (q + 12) (by omega)) (by simp [crL1]) (by simp [crL1])
  have hO2 : ∀ {mem : Mem} {k : Nat}, mem 32784 = .row 123 (cRd b (q + 15)) → mem k = .row 3 ((crL2 b (q + 14)).map vI) → _ := fun {mem k} hj hk => oneR (mem := mem) (j := 32784) (k := k) b (crL2 b (q + 14)) hj hk (hrd (q + 15) (by omega)) (by simp [crL2]) (by simp [crL2])
  rw [show ((crL1 b q).length : Int) = 4 from rfl] at hO1
  rw [show ((crL2 b (q + 14)).length : Int) = 9 from rfl] at hO2
  unfold nY
  dsimp only
  generalize (crL1 b q).getD (ae b (q + 12) 4).toNat 0 = x1 at hO1 ⊢
  generalize (crL2 b (q + 14)).getD (ae b (q + 15) 9).toNat 0 = x2 at hO2 ⊢
  unfold crL1 at hO1
  unfold crL2 at hO2
  generalize ae b (q + 13) 8 = y1 at hP1 h13 ⊢
  generalize ae b (q + 14) 30 = y2 at hP2 hO2
  generalize kD b q = m1 at hM1 hO1
  generalize kD b (q + 4) = m2 at hM2 hO1
  generalize kD b (q + 8) = m3 at hM3 hO1
  have w1 : IntKind.i64.wrap (y1 - 1) = y1 - 1 := af (by omega) (by omega)
  refine stO Tryz.func41 [.cell 2 33, .tmp 3, .tmp 4, .tmp 5] 28 rfl rfl rfl ?_
  repeat' first | refine sS ?_ | ((with_reducible show aC ..); first | refine cM rfl rfl rfl rfl (hA (by simp only [upd]; rfl)) ?_ | refine cM rfl rfl rfl rfl (hM1 (by simp only [upd]; rfl)) ?_ | refine cM rfl rfl rfl rfl (hM2 (by simp only [upd]; rfl)) ?_ | refine cM rfl rfl rfl rfl (hM3 (by simp only [upd]; rfl)) ?_ | refine cM rfl rfl rfl rfl (hP1 (by simp only [upd]; rfl)) ?_ | refine cM rfl rfl rfl rfl (hP2 (by simp only [upd]; rfl)) ?_ | refine cM rfl rfl rfl rfl (hO1 (by simp only [upd]; rfl) (by simp only [upd, List.map_cons, List.map_nil]; rfl)) ?_ | refine cM rfl rfl rfl rfl (hO2 (by simp only [upd]; rfl) (by simp only [upd, List.map_cons, List.map_nil]; rfl)) ?_ | refine cR rfl rfl rfl rfl hO ?_) | refine sO (fun K' hK' => ?_) | (refine sE hK' ?_; clear hK') | refine sU ?_ ?_ | exact sX | ((with_reducible first | refine En.ret ?_ | refine En.normal ?_); simp only [go_sem, Nat.reduceAdd, Nat.reduceMul, Nat.reduceEqDiff, Nat.reduceLT, Nat.reduceLeDiff]) | (simp only [go_sem, Nat.reduceAdd, Nat.reduceMul, Nat.reduceEqDiff, Nat.reduceLT, Nat.reduceLeDiff, w1]; (all_goals fail_if_success show False)) | fail
  all_goals exact kp []
end Go.Proofs.YtknciobaifdafaaGreatDoor.T
