/- The draws of the store, walked, part 14: what is drawn, in plain Lean. -/
import Derived.Test.YtknciobaifdafaaGreatDoorQGD
import Derived.Test.YtknciobaifdafaaGreatDoorQEZ
import Derived.Test.YtknciobaifdafaaGreatDoorQG1
import Derived.Test.YtknciobaifdafaaGreatDoorQV
set_option linter.unusedVariables false
set_option linter.unusedSimpArgs false
namespace Go.Pv
def kZ (b : List Int) : Nat → Stor → Nat → Stor × Nat
  | 0, s, p => (s, p)
  | n + 1, s, p => kZ b n (stepS s (dY b p).1) (dY b p).2
def uO : List Int := [0, 1, 2, 3, 5, 8]
def xI : List Int := [99998, 99999, 9, 99]
def Dq : List Int := [99, 98]
def roundsV (b : List Int) (p : Nat) : Nat := (uO.getD (ae b p 6).toNat 0).toNat
def wP (b : List Int) (p : Nat) : Int := xI.getD (ae b p 4).toNat 0
def tryV (b : List Int) (p : Nat) : Int := Dq.getD (ae b p 2).toNat 0
def GX (b : List Int) (s : Stor) (q : Nat) : Stor × Nat :=
  if ae b q 16 = 0 then (yl s (wP b (q + 1)), q + 2)
  else if ae b q 16 = 1 then (⟨s.disk, s.turn, tryV b (q + 1), s.next, s.pages⟩, q + 2)
  else (s, q + 1)
def fD (b : List Int) (p : Nat) : Stor × Nat := GX b (kZ b (roundsV b p) newS (p + 1)).1 (kZ b (roundsV b p) newS (p + 1)).2
def uP (k : Nat) (s : Stor) : Prop := (k ≤ 7 → ∃ c T, PlayI k c T s) ∧ PlayE s
theorem AA : uP 0 newS := by
  rw [Jv]
  have h := Nc (-1) (-1)
  exact ⟨fun _ => ⟨0, 1, h⟩, h.e (by omega)⟩
theorem uP.step {k : Nat} {s : Stor} (h : uP k s) (hk : k ≤ 7) {b : List Int} {p : Nat} (hb : ∀ q, q ≤ 1000000 → RdOk b q) (hp : p + 40 ≤ 1000000) : uP (k + 1) (stepS s (dY b p).1) ∧ IA s (dY b p).1 := by
  obtain ⟨c, T, hI⟩ := h.1 hk
  obtain ⟨h1, h2, _⟩ := xH hb hp
  have := KT hI hk h1 h2
  exact ⟨⟨fun hk6 => this.1.1 (by omega), this.1.2⟩, this.2⟩
theorem AB {b : List Int} (hb : ∀ q, q ≤ 1000000 → RdOk b q) : ∀ (n k : Nat) (s : Stor) (p : Nat), k + n ≤ 8 → uP k s → p + 40 * n ≤ 1000000 → uP (k + n) (kZ b n s p).1 ∧ (kZ b n s p).2 ≤ p + 26 * n
  | 0, k, s, p, _, h, _ => ⟨h, Nat.le_refl _⟩
  | n + 1, k, s, p, hk, h, hp => by
    unfold kZ
    have h2 := (xH (b := b) (p := p) hb (by omega)).2.2
    obtain ⟨g1, g2⟩ := AB hb n (k + 1) _ (dY b p).2 (by omega) (h.step (p := p) (by omega) hb (by omega)).1 (by omega)
    rw [show k + 1 + n = k + (n + 1) by omega] at g1
    exact ⟨g1, by omega⟩
theorem Dt {b : List Int} {p : Nat} (h : RdOk b p) : roundsV b p ≤ 8 := by
  have hp := az h (n := 6) (by omega)
  unfold roundsV
  have : ∀ x ∈ uO, x.toNat ≤ 8 := by decide
  exact this _ (getD_mem (by show (ae b p 6).toNat < 6; omega))
theorem GY {b : List Int} {p : Nat} (h : RdOk b p) : wP b p = 99998 ∨ wP b p = 99999 ∨ wP b p = 9 ∨ wP b p = 99 := by
  have hp := az h (n := 4) (by omega)
  unfold wP
  have : ∀ x ∈ xI, x = 99998 ∨ x = 99999 ∨ x = 9 ∨ x = 99 := by decide
  exact this _ (getD_mem (by show (ae b p 4).toNat < 4; omega))
theorem O6 {b : List Int} {p : Nat} (h : RdOk b p) : tryV b p = 99 ∨ tryV b p = 98 := by
  have hp := az h (n := 2) (by omega)
  unfold tryV
  have : ∀ x ∈ Dq, x = 99 ∨ x = 98 := by decide
  exact this _ (getD_mem (by show (ae b p 2).toNat < 2; omega))
def Nw (t : Int) (c : List ByteArray) : Prop := (∃ T : Nat, t = T ∧ T ≤ 25 ∧ HeadOk T c) ∨ ((t = 99998 ∨ t = 99999 ∨ t = 9 ∨ t = 99) ∧ ∃ s, Good s ∧ c = jb s t)
structure Drawn (s : Stor) : Prop where
  good : ∃ t, Good ⟨s.disk, s.turn, t, s.next, s.pages⟩
  room : s.disk.room = -1
  left : s.disk.left = -1
  tries : 0 ≤ s.tries ∧ s.tries ≤ 99
  heads : Nw s.turn s.disk.cells
theorem PlayE.drawn {s : Stor} (h : PlayE s) : Drawn s := ⟨⟨s.tries, h.good⟩, h.room, h.left, h.good.tries, .inl h.top⟩
theorem Ny {b : List Int} {s : Stor} {q : Nat} (hb : ∀ q, q ≤ 1000000 → RdOk b q) (hq : q + 2 ≤ 1000000) (h : PlayE s) : Drawn (GX b s q).1 ∧ (GX b s q).2 ≤ q + 2 := by
  unfold GX
  split
  · have ht := GY (hb (q + 1) (by omega))
    have g := CZ (rm := s.disk.room) (lf := s.disk.left) h.good (T := wP b (q + 1)) (by omega)
    exact ⟨⟨⟨_, g⟩, h.room, h.left, ⟨Int.le_refl 0, (by decide : (0 : Int) ≤ 99)⟩, .inr ⟨ht, s, h.good, rfl⟩⟩, Nat.le_refl _⟩
  · split
    · have ht := O6 (hb (q + 1) (by omega))
      exact ⟨⟨⟨s.tries, h.good⟩, h.room, h.left, by dsimp only; omega, .inl h.top⟩, Nat.le_refl _⟩
    · exact ⟨h.drawn, by dsimp only; omega⟩
theorem oO {b : List Int} {p : Nat} (hb : ∀ q, q ≤ 1000000 → RdOk b q) (hp : p + 400 ≤ 1000000) : Drawn (fD b p).1 ∧ (fD b p).2 ≤ p + 211 := by
  have hr := Dt (hb p (by omega))
  obtain ⟨h1, h2⟩ := AB hb (roundsV b p) 0 newS (p + 1) (by omega) AA (by omega)
  obtain ⟨g1, g2⟩ := Ny (q := (kZ b (roundsV b p) newS (p + 1)).2) hb (by omega) h1.2
  exact ⟨g1, by unfold fD; omega⟩
end Go.Pv
namespace Go.Proofs.YtknciobaifdafaaGreatDoor.T
open Go Go.Pv
theorem Nz {b : List Int} {p : Nat} (hb : ∀ q, q ≤ 1000000 → RdOk b q) (hp : p + 40 ≤ 1000000) : StepB (dY b p).1 := by
  obtain ⟨q1, q2, q3, q4, _⟩ := Em hb hp
  have h := qH (p := p + 1) hb (by omega)
  have B : StepB (fB b p).1 := by
    refine ⟨?_, ?_, ?_, ?_, ?_⟩
    · show (if 3 ≤ svK b p then ae b (sv2 b p) 9 else -1) ≤ 1000000
      have := az (hb (sv2 b p) (by omega)) (n := 9) (by omega)
      split <;> omega
    · show (if ae b (sv3 b p) 30 = 0 then qj.getD (ae b (sv3 b p + 2) 3).toNat 0 else if ae b (sv1 b p) 4 = 0 then ae b (sv1 b p + 1) 6 else -1) ≤ 1000000
      have h1 := az (hb (sv3 b p + 2) (by omega)) (n := 3) (by omega)
      have h2 := az (hb (sv1 b p + 1) (by omega)) (n := 6) (by omega)
      split
      · exact (by decide : ∀ x ∈ qj, x ≤ 1000000) _ (getD_mem (by show (ae b (sv3 b p + 2) 3).toNat < 3; omega))
      · split <;> omega
    · show -9223372036854775807 ≤ (if ae b (sv3 b p) 30 = 0 then oN.getD (ae b (sv3 b p + 3) 2).toNat 0 else if 3 ≤ svK b p then kD b (sv2 b p + 1) else 0) ∧ (if ae b (sv3 b p) 30 = 0 then oN.getD (ae b (sv3 b p + 3) 2).toNat 0 else if 3 ≤ svK b p then kD b (sv2 b p + 1) else 0) ≤ 9223372036854775807
      have h1 := az (hb (sv3 b p + 3) (by omega)) (n := 2) (by omega)
      have h2 := wL (hb (sv2 b p + 1) (by omega)) (by omega)
      split
      · exact (by decide : ∀ x ∈ oN, -9223372036854775807 ≤ x ∧ x ≤ 9223372036854775807) _ (getD_mem (by show (ae b (sv3 b p + 3) 2).toNat < 2; omega))
      · split <;> omega
    · show -1000000000 ≤ (if 3 ≤ svK b p then (eU (ae b (sv2 b p + 6) 40)).getD (ae b (sv2 b p + 7) 8).toNat 0 else 0) ∧ (if 3 ≤ svK b p then (eU (ae b (sv2 b p + 6) 40)).getD (ae b (sv2 b p + 7) 8).toNat 0 else 0) ≤ 1000000000
      have h1 := az (hb (sv2 b p + 7) (by omega)) (n := 8) (by omega)
      have h2 := az (hb (sv2 b p + 6) (by omega)) (n := 40) (by omega)
      split
      · have h3 := getD_mem (l := eU (ae b (sv2 b p + 6) 40)) (k := (ae b (sv2 b p + 7) 8).toNat) (d := 0) (by show (ae b (sv2 b p + 7) 8).toNat < 8; omega)
        generalize (eU (ae b (sv2 b p + 6) 40)).getD (ae b (sv2 b p + 7) 8).toNat 0 = x at h3 ⊢
        simp only [eU, List.mem_cons, List.not_mem_nil, or_false] at h3
        omega
      · omega
    · show (dI b (p + 1)).1.length ≤ 2000000
      omega
  unfold dY
  dsimp only
  split
  · exact B
  · exact ⟨by decide, by decide, by decide, by decide, by decide⟩
end Go.Proofs.YtknciobaifdafaaGreatDoor.T
set_option linter.unusedVariables false
set_option maxRecDepth 100000
set_option maxHeartbeats 4000000
set_option linter.unusedSimpArgs false
namespace Go.Pv
def repS (s : ByteArray) : Nat → ByteArray
  | 0 => ByteArray.empty
  | n + 1 => repS s n ++ s
theorem rY (s : ByteArray) : ∀ n, (repS s n).size = n * s.size
  | 0 => by rw [Nat.zero_mul]; rfl
  | n + 1 => by unfold repS; rw [ByteArray.size_append, rY s n, Nat.add_mul, Nat.one_mul]
def AC : List ByteArray := [⟨#[48]⟩, ⟨#[57]⟩, ⟨#[45]⟩, ⟨#[46]⟩, ⟨#[32]⟩, ⟨#[120]⟩, ⟨#[44]⟩, ⟨#[58]⟩, ⟨#[39]⟩, ⟨#[33]⟩, ⟨#[59]⟩]
def AL : List ByteArray := [⟨#[120]⟩, ⟨#[48]⟩, ⟨#[32]⟩, ⟨#[39]⟩, ⟨#[59]⟩, ⟨#[10]⟩]
def AO : List ByteArray := [⟨#[48]⟩, ⟨#[45]⟩, ⟨#[46]⟩, ⟨#[32]⟩, ⟨#[40]⟩, ⟨#[49]⟩]
def AP (b : List Int) (p : Nat) (s : ByteArray) : ByteArray × Nat :=
  let k := (ae b p ((s.size : Int) + 1)).toNat
  if ae b (p + 1) 6 = 0 then (if k < s.size then (s.extract 0 k ++ AC.getD (ae b (p + 2) 11).toNat ByteArray.empty ++ s.extract (k + 1) s.size, p + 3) else (s, p + 2))
  else if ae b (p + 1) 6 = 1 then (s.extract 0 k, p + 2)
  else if ae b (p + 1) 6 = 2 then (s ++ AL.getD (ae b (p + 2) 6).toNat ByteArray.empty, p + 3)
  else if ae b (p + 1) 6 = 3 then (s.extract 0 k ++ AO.getD (ae b (p + 2) 6).toNat ByteArray.empty ++ s.extract k s.size, p + 3)
  else (s, p + 2)
end Go.Pv
namespace Go.Proofs.YtknciobaifdafaaGreatDoor.T
open Go Go.Pv Go.Proofs.YtknciobaifdafaaGreatDoor.EF
theorem JB (s : ByteArray) (n : Nat) (hs : s.size ≤ 10) (hn : n ≤ 100000) : Ok Tryz.prog 137 [vS s, vI n] (vS (repS s n)) [] := by
  refine stO Tryz.func137 [.tmp 4] 14 rfl rfl rfl ?_
  repeat' first | refine sS ?_ | refine sO (fun K' hK' => ?_) | (refine sE hK' ?_; clear hK') | (simp only [go_sem]; (all_goals fail_if_success show False)) | fail
  refine W.loop (fun x : Nat × Nat => ⟨[vS s, vI x.1, .any, .any, .any, vS (repS s x.2), .any, .any, .any, .any, .any, .any, .any, .any], bM⟩) (fun x => x.1 + x.2 = n) (fun x => x.1) (n, 0) ?wk0 rfl (fun x hx => ?_)
  case wk0 =>
    rw [show repS s 0 = ⟨#[]⟩ from rfl]
    exact kp []
  obtain ⟨k, m⟩ := x
  dsimp only at hx ⊢
  have hsz := rY s m
  have hle : m * s.size ≤ 100000 * 10 := Nat.mul_le_mul (by omega) hs
  repeat' first | refine sS ?_ | refine sO (fun K' hK' => ?_) | (refine sE hK' ?_; clear hK') | (refine sD (fun hc => ?_) (fun hc => ?_) <;> try exact sZ hc) | refine sU ?_ ?_ | exact sX | ((with_reducible first | refine En.ret ?_ | refine En.normal ?_); simp only [go_sem]) | (simp only [go_sem]; (all_goals fail_if_success show False)) | fail
  · refine Rnd.normal (k - 1, m + 1) (by dsimp only; omega) (by dsimp only; omega) ?_
    rw [show IntKind.i64.wrap ((k : Int) - 1) = ((k - 1 : Nat) : Int) by rw [af (by omega) (by omega)]; omega, show repS s m ++ s = repS s (m + 1) from rfl]
    exact kp []
  · rw [show n = m by omega]
    exact Out.flat' rfl
theorem wQ (b : List Int) (hb : b.length ≤ 1048576) : Ok Tryz.prog 64 [.val b.length (b.map vU8)] (.ptr 0 0) [(123, cRd (b.take 2000) 0)] := by
  by_cases h : b.length ≤ 2000
  · rw [List.take_of_length_le h]
    refine stO Tryz.func64 [.tmp 2] 11 rfl rfl rfl ?_
    repeat' first | refine sS ?_ | refine sO (fun K' hK' => ?_) | (refine sE hK' ?_; clear hK') | (refine sD (fun hc => ?_) (fun hc => ?_) <;> try exact sZ hc) | ((with_reducible first | refine En.ret ?_ | refine En.normal ?_); simp only [go_sem]) | (simp only [go_sem, Nat.reduceAdd, Nat.reduceMul, Nat.reduceLeDiff]; (all_goals fail_if_success show False)) | fail
    exact kp [⟨65568, 0, 123, (cRd b 0)⟩]
  · have hl : (b.take 2000).length = 2000 := by rw [List.length_take]; omega
    refine stO Tryz.func64 [.tmp 2] 11 rfl rfl rfl ?_
    repeat' first | refine sS ?_ | refine sO (fun K' hK' => ?_) | (refine sE hK' ?_; clear hK') | (refine sD (fun hc => ?_) (fun hc => ?_) <;> try exact sZ hc) | refine sU ?_ ?_ | exact sX | ((with_reducible first | refine En.ret ?_ | refine En.normal ?_); simp only [go_sem]) | (simp only [go_sem, Nat.reduceAdd, Nat.reduceMul, Nat.reduceLeDiff]; (all_goals fail_if_success show False)) | fail
    have e : cRd (b.take 2000) 0 = [.val 2000 ((b.take 2000).map vU8), vI ((0 : Nat) : Int)] := by
      show [PV.val (b.take 2000).length _, _] = _
      rw [hl]
    rw [← List.map_take, e]
    exact kp [⟨65568, 0, 123, [.val 2000 ((b.take 2000).map vU8), vI ((0 : Nat) : Int)]⟩]
theorem QV (b : List Int) (p : Nat) (s : ByteArray) (hb : ∀ q, q ≤ 1000000 → RdOk b q) (hp : p + 5 ≤ 1000000) (hs : s.size ≤ 2000) : OkS Tryz.prog 71 [.ptr 0 0, vS s] [(123, cRd b p)] (fun i => i = 0) (vS (AP b p s).1) [(123, cRd b (AP b p s).2)] := by
  have hk := az (hb p (by omega)) (n := (s.size : Int) + 1) (by omega)
  have w1 : IntKind.i64.wrap ((s.size : Int) + 1) = (s.size : Int) + 1 := af (by omega) (by omega)
  have w2 : ∀ k : Nat, k ≤ s.size → IntKind.i64.wrap ((k : Int) + 1) = ((k + 1 : Nat) : Int) := fun k hk => by rw [af (by omega) (by omega)]; omega
  have hP1 : ∀ {mem : Mem}, mem 0 = .row 123 (cRd b p) → _ := fun {mem} hj => gB (mem := mem) (j := 0) b ((s.size : Int) + 1) hj (hb p (by omega))
  have hP2 : ∀ {mem : Mem}, mem 0 = .row 123 (cRd b (p + 1)) → _ := fun {mem} hj => gB (mem := mem) (j := 0) b 6 hj (hb (p + 1) (by omega))
  have hOA : ∀ {mem : Mem} {k : Nat}, mem 0 = .row 123 (cRd b (p + 2)) → mem k = .row 9 (AC.map vS) → _ := fun {mem k} hj hk => ofR (mem := mem) (j := 0) (k := k) b AC hj hk (hb (p + 2) (by omega)) (by decide) (by decide)
  have hOB : ∀ {mem : Mem} {k : Nat}, mem 0 = .row 123 (cRd b (p + 2)) → mem k = .row 9 (AL.map vS) → _ := fun {mem k} hj hk => ofR (mem := mem) (j := 0) (k := k) b AL hj hk (hb (p + 2) (by omega)) (by decide) (by decide)
  have hOC : ∀ {mem : Mem} {k : Nat}, mem 0 = .row 123 (cRd b (p + 2)) → mem k = .row 9 (AO.map vS) → _ := fun {mem k} hj hk => ofR (mem := mem) (j := 0) (k := k) b AO hj hk (hb (p + 2) (by omega)) (by decide) (by decide)
  have hzA : (AC.getD (ae b (p + 2) 11).toNat ByteArray.empty).size ≤ 10 := (by decide : ∀ t ∈ AC, t.size ≤ 10) _ (getD_mem (by have := az (hb (p + 2) (by omega)) (n := 11) (by omega); show (ae b (p + 2) 11).toNat < 11; omega))
  have hzB : (AL.getD (ae b (p + 2) 6).toNat ByteArray.empty).size ≤ 10 := (by decide : ∀ t ∈ AL, t.size ≤ 10) _ (getD_mem (by have := az (hb (p + 2) (by omega)) (n := 6) (by omega); show (ae b (p + 2) 6).toNat < 6; omega))
  have hzC : (AO.getD (ae b (p + 2) 6).toNat ByteArray.empty).size ≤ 10 := (by decide : ∀ t ∈ AO, t.size ≤ 10) _ (getD_mem (by have := az (hb (p + 2) (by omega)) (n := 6) (by omega); show (ae b (p + 2) 6).toNat < 6; omega))
  rw [show (AC.length : Int) = 11 from rfl] at hOA
  rw [show (AL.length : Int) = 6 from rfl] at hOB
  rw [show (AO.length : Int) = 6 from rfl] at hOC
  unfold AP
  generalize AC.getD (ae b (p + 2) 11).toNat ByteArray.empty = tA at hzA hOA ⊢
  generalize AL.getD (ae b (p + 2) 6).toNat ByteArray.empty = tB at hzB hOB ⊢
  generalize AO.getD (ae b (p + 2) 6).toNat ByteArray.empty = tC at hzC hOC ⊢
  generalize ae b (p + 1) 6 = c at hP2 ⊢
  obtain ⟨k, hkk⟩ : ∃ k : Nat, ae b p ((s.size : Int) + 1) = k := ⟨(ae b p ((s.size : Int) + 1)).toNat, by omega⟩
  rw [hkk] at hP1 hk ⊢
  replace w2 := w2 k (by omega)
  dsimp only
  by_cases c0 : c = 0
  · rw [if_pos c0]
    by_cases ck : k < s.size
    · rw [Int.toNat_natCast, if_pos ck]
      refine stS Tryz.func71 [.tmp 4] 57 rfl rfl rfl ?_
      repeat' first | ((with_reducible show _ + _ ≤ 9223372036854775807); (simp only [ByteArray.size_append, ByteArray.size_extract]; omega)) | ((with_reducible show dw _ _ _ _ _ _ _ _ _ _ _ _); refine sT 4 rfl rfl rfl rfl (List.mem_cons_self ..) (fun m2 hm2 hm3 => hOA hm2 hm3) ?_) | ((with_reducible show W _ _ (.region 5 _ _) _ _); refine dM 13 0 [5] ?_) | refine sS ?_ | ((with_reducible show aC ..); first | refine cM rfl rfl rfl rfl (hP1 (by simp only [upd]; rfl)) ?_ | refine cM rfl rfl rfl rfl (hP2 (by simp only [upd]; rfl)) ?_) | refine sO (fun K' hK' => ?_) | refine yA (fun K' hA' => ?_) | (refine sE hK' ?_; clear hK') | (refine sE hA' ?_; clear hA') | (refine sD (fun hc => ?_) (fun hc => ?_) <;> try exact sZ hc) | refine sU ?_ ?_ | exact sX | ((with_reducible first | refine En.ret ?_ | refine En.normal ?_); simp only [go_sem, Nat.reduceAdd, Nat.reduceMul]) | (simp only [go_sem, Nat.reduceAdd, Nat.reduceMul, Nat.reduceEqDiff, Nat.reduceLeDiff, w1, w2]; (all_goals fail_if_success show False)) | fail
      all_goals exact kp [⟨0, 0, 123, (cRd b (p + 3))⟩]
    · rw [Int.toNat_natCast, if_neg ck]
      refine stS Tryz.func71 [.tmp 4] 57 rfl rfl rfl ?_
      repeat' first | refine sS ?_ | ((with_reducible show aC ..); first | refine cM rfl rfl rfl rfl (hP1 (by simp only [upd]; rfl)) ?_ | refine cM rfl rfl rfl rfl (hP2 (by simp only [upd]; rfl)) ?_) | refine sO (fun K' hK' => ?_) | (refine sE hK' ?_; clear hK') | (refine sD (fun hc => ?_) (fun hc => ?_) <;> try exact sZ hc) | ((with_reducible first | refine En.ret ?_ | refine En.normal ?_); simp only [go_sem]) | (simp only [go_sem, w1]; (all_goals fail_if_success show False)) | fail
      all_goals exact kp [⟨0, 0, 123, (cRd b (p + 2))⟩]
  · rw [if_neg c0]
    by_cases c1 : c = 1
    · rw [if_pos c1, Int.toNat_natCast]
      refine stS Tryz.func71 [.tmp 4] 57 rfl rfl rfl ?_
      repeat' first | refine sS ?_ | ((with_reducible show aC ..); first | refine cM rfl rfl rfl rfl (hP1 (by simp only [upd]; rfl)) ?_ | refine cM rfl rfl rfl rfl (hP2 (by simp only [upd]; rfl)) ?_) | refine sO (fun K' hK' => ?_) | (refine sE hK' ?_; clear hK') | (refine sD (fun hc => ?_) (fun hc => ?_) <;> try exact sZ hc) | refine sU ?_ ?_ | exact sX | ((with_reducible first | refine En.ret ?_ | refine En.normal ?_); simp only [go_sem]) | (simp only [go_sem, w1]; (all_goals fail_if_success show False)) | fail
      all_goals exact kp [⟨0, 0, 123, (cRd b (p + 2))⟩]
    · rw [if_neg c1]
      by_cases c2 : c = 2
      · rw [if_pos c2]
        refine stS Tryz.func71 [.tmp 4] 57 rfl rfl rfl ?_
        repeat' first | refine sS ?_ | ((with_reducible show aC ..); first | refine cM rfl rfl rfl rfl (hOB (by simp only [upd]; rfl) (by simp only [upd]; rfl)) ?_ | refine cM rfl rfl rfl rfl (hP1 (by simp only [upd]; rfl)) ?_ | refine cM rfl rfl rfl rfl (hP2 (by simp only [upd]; rfl)) ?_) | refine sO (fun K' hK' => ?_) | (refine sE hK' ?_; clear hK') | (refine sD (fun hc => ?_) (fun hc => ?_) <;> try exact sZ hc) | refine sU ?_ ?_ | exact sX | ((with_reducible first | refine En.ret ?_ | refine En.normal ?_); simp only [go_sem]) | (simp only [go_sem, Nat.reduceAdd, Nat.reduceMul, Nat.reduceEqDiff, Nat.reduceLeDiff, w1]; (all_goals fail_if_success show False)) | fail
        all_goals exact kp [⟨0, 0, 123, (cRd b (p + 3))⟩]
      · rw [if_neg c2]
        by_cases c3 : c = 3
        · rw [if_pos c3, Int.toNat_natCast]
          refine stS Tryz.func71 [.tmp 4] 57 rfl rfl rfl ?_
          repeat' first | ((with_reducible show _ + _ ≤ 9223372036854775807); (simp only [ByteArray.size_append, ByteArray.size_extract]; omega)) | ((with_reducible show dw _ _ _ _ _ _ _ _ _ _ _ _); refine sT 4 rfl rfl rfl rfl (List.mem_cons_self ..) (fun m2 hm2 hm3 => hOC hm2 hm3) ?_) | ((with_reducible show W _ _ (.region 11 _ _) _ _); refine dM 12 0 [5] ?_) | refine sS ?_ | ((with_reducible show aC ..); first | refine cM rfl rfl rfl rfl (hP1 (by simp only [upd]; rfl)) ?_ | refine cM rfl rfl rfl rfl (hP2 (by simp only [upd]; rfl)) ?_) | refine sO (fun K' hK' => ?_) | refine yA (fun K' hA' => ?_) | (refine sE hK' ?_; clear hK') | (refine sE hA' ?_; clear hA') | (refine sD (fun hc => ?_) (fun hc => ?_) <;> try exact sZ hc) | refine sU ?_ ?_ | exact sX | ((with_reducible first | refine En.ret ?_ | refine En.normal ?_); simp only [go_sem, Nat.reduceAdd, Nat.reduceMul]) | (simp only [go_sem, Nat.reduceAdd, Nat.reduceMul, Nat.reduceEqDiff, Nat.reduceLeDiff, w1]; (all_goals fail_if_success show False)) | fail
          all_goals exact kp [⟨0, 0, 123, (cRd b (p + 3))⟩]
        · rw [if_neg c3]
          refine stS Tryz.func71 [.tmp 4] 57 rfl rfl rfl ?_
          repeat' first | refine sS ?_ | ((with_reducible show aC ..); first | refine cM rfl rfl rfl rfl (hP1 (by simp only [upd]; rfl)) ?_ | refine cM rfl rfl rfl rfl (hP2 (by simp only [upd]; rfl)) ?_) | refine sO (fun K' hK' => ?_) | (refine sE hK' ?_; clear hK') | (refine sD (fun hc => ?_) (fun hc => ?_) <;> try exact sZ hc) | ((with_reducible first | refine En.ret ?_ | refine En.normal ?_); simp only [go_sem]) | (simp only [go_sem, w1]; (all_goals fail_if_success show False)) | fail
          all_goals exact kp [⟨0, 0, 123, (cRd b (p + 2))⟩]
end Go.Proofs.YtknciobaifdafaaGreatDoor.T
set_option linter.unusedVariables false
set_option linter.unusedSimpArgs false
namespace Go.Pv
def TxB (x : ByteArray) : Prop := x.data.toList ∈ txL ∧ x.size ≤ 40
theorem Du : TxB ByteArray.empty := ⟨List.mem_cons_self .., Nat.zero_le _⟩
def at1V (b : List Int) (p : Nat) : List Int := [0, 1, 2, 3, 21, 22, 23, 41, ae b p 42]
def at2V (b : List Int) (p : Nat) : List Int := [0, 1, 2, 22, ae b p 42]
def dkGo (L : Nat → List Int) (b : List Int) : Nat → Dk → Nat → Dk × Nat
  | 0, d, p => (d, p)
  | n + 1, d, p => dkGo L b n (aO d ((L p).getD (ae b (p + 1) (L p).length).toNat 0) (jJ b (p + 2))).1 (p + 3)
def rmL : List Int := [-1, -1, -1, 0, 1, 3]
def lfL : List Int := [-1, -1, -1, 0, 1, 2]
def dk2V (b : List Int) (D : Dk × Nat) : Dk := if ae b D.2 2 = 0 then aV D.1 else D.1
def dkW1 (b : List Int) (p : Nat) : Dk × Nat := dkGo (at1V b) b (ae b p 6).toNat jZ (p + 1)
def dkW2 (b : List Int) (D : Dk × Nat) : Dk × Nat := dkGo (at2V b) b (ae b (D.2 + 1) 6).toNat (dk2V b D) (D.2 + 2)
def dkL (b : List Int) (D : Dk × Nat) : Dk × Nat := (⟨D.1.cells, D.1.waits, rmL.getD (ae b D.2 6).toNat 0, lfL.getD (ae b (D.2 + 1) 6).toNat 0⟩, D.2 + 2)
def fO (b : List Int) (p : Nat) : Dk × Nat := dkL b (dkW2 b (dkW1 b p))
structure DkX (n : Nat) (d : Dk) : Prop where
  cells : d.cells.length = 42
  room : d.room = -1
  left : d.left = -1
  waits : d.waits.length ≤ n
  ok : ∀ w ∈ d.waits, (0 ≤ w.cell ∧ w.cell ≤ 41) ∧ TxB w.text
  text : ∀ k, TxB (cellAt d.cells k)
theorem DkX.b {n : Nat} {d : Dk} (h : DkX n d) (hn : n ≤ 100) : DkB d := ⟨h.cells, by have := h.waits; omega, fun w hw => (h.ok w hw).1, by rw [h.room]; decide, by rw [h.left]; decide⟩
theorem JC : DkX 0 jZ := by
  refine ⟨rfl, rfl, rfl, Nat.le_refl _, fun w hw => (by cases hw), fun k => ?_⟩
  have e : cellAt jZ.cells k = ByteArray.empty := by
    unfold cellAt jZ
    rw [List.getD_eq_getElem?_getD, List.getElem?_replicate]
    split <;> rfl
  rw [e]
  exact Du
theorem DkX.write {n : Nat} {d : Dk} (h : DkX n d) (hn : n < 100) {c : Int} {t : ByteArray} (hc : 0 ≤ c ∧ c ≤ 41) (ht : TxB t) : DkX (n + 1) (aO d c t).1 ∧ (aO d c t).1.cells = d.cells := by
  have hw := h.waits
  have hk : wtOk ⟨c, t⟩ = true := by
    unfold wtOk
    rw [Bool.and_eq_true]
    exact ⟨decide_eq_true hc, decide_eq_true (by have := ht.2; dsimp only; omega)⟩
  rw [iD (by rw [h.left]; decide) (by rw [hk, h.room]; simp; omega), h.room, h.left]
  refine ⟨⟨h.cells, rfl, rfl, by rw [List.length_append]; simp; omega, fun w hw => ?_, h.text⟩, rfl⟩
  rcases List.mem_append.1 hw with hw | hw
  · exact h.ok w hw
  · rw [List.mem_singleton.1 hw]; exact ⟨hc, ht⟩
theorem AQ : ∀ (ws : List Wt) (c : List ByteArray), (∀ w ∈ ws, TxB w.text) → (∀ k, TxB (cellAt c k)) → ∀ k, TxB (cellAt (aj c ws) k)
  | [], c, _, h, k => h k
  | w :: ws, c, hw, h, k => by
    show TxB (cellAt (aj (c.set w.cell.toNat w.text) ws) k)
    refine AQ ws _ (fun x hx => hw x (List.mem_cons_of_mem _ hx)) (fun j => ?_) k
    rw [at_set]
    split
    · exact hw w (List.mem_cons_self ..)
    · exact h j
theorem DkX.sync {n : Nat} {d : Dk} (h : DkX n d) : DkX n (aV d) := by
  have e : aV d = ⟨aj d.cells d.waits, [], -1, -1⟩ := by
    unfold aV
    rw [if_neg (by rw [h.left]; decide), h.room, h.left]
    rfl
  rw [e]
  exact ⟨by rw [aQ]; exact h.cells, rfl, rfl, Nat.zero_le _, fun w hw => (by cases hw), AQ _ _ (fun w hw => (h.ok w hw).2) h.text⟩
theorem Ep {b : List Int} (hb : ∀ q, q ≤ 1000000 → RdOk b q) {L : Nat → List Int} {ll : Nat} (hl : ∀ p, (L p).length = ll) (hll : 0 < ll) (hL : ∀ p, p ≤ 1000000 → ∀ x ∈ L p, 0 ≤ x ∧ x ≤ 41) : ∀ (n m : Nat) (d : Dk) (p : Nat), m + n ≤ 100 → p + 3 * n ≤ 1000000 → DkX m d → DkX (m + n) (dkGo L b n d p).1 ∧ (dkGo L b n d p).2 = p + 3 * n
  | 0, m, d, p, _, _, h => ⟨h, rfl⟩
  | n + 1, m, d, p, hm, hp, h => by
    unfold dkGo
    have h1 := az (hb (p + 1) (by omega)) (n := ((L p).length : Int)) (by rw [hl]; omega)
    have hc := hL p (by omega) _ (getD_mem (l := L p) (k := (ae b (p + 1) (L p).length).toNat) (d := 0) (by omega))
    obtain ⟨g1, g2⟩ := Ep hb hl hll hL n (m + 1) _ (p + 3) (by omega) (by omega) (h.write (by omega) hc (oM (hb (p + 2) (by omega)))).1
    rw [show m + 1 + n = m + (n + 1) by omega] at g1
    exact ⟨g1, by omega⟩
theorem NC {b : List Int} (hb : ∀ q, q ≤ 1000000 → RdOk b q) (p : Nat) (hp : p ≤ 1000000) : ∀ x ∈ at1V b p, 0 ≤ x ∧ x ≤ 41 := fun x hx => by
  have h1 := az (hb p hp) (n := 42) (by omega)
  simp only [at1V, List.mem_cons, List.not_mem_nil, or_false] at hx
  omega
theorem ND {b : List Int} (hb : ∀ q, q ≤ 1000000 → RdOk b q) (p : Nat) (hp : p ≤ 1000000) : ∀ x ∈ at2V b p, 0 ≤ x ∧ x ≤ 41 := fun x hx => by
  have h1 := az (hb p hp) (n := 42) (by omega)
  simp only [at2V, List.mem_cons, List.not_mem_nil, or_false] at hx
  omega
theorem JD {b : List Int} {p : Nat} (hb : ∀ q, q ≤ 1000000 → RdOk b q) (hp : p + 50 ≤ 1000000) : DkX 5 (dkW1 b p).1 ∧ (dkW1 b p).2 ≤ p + 16 := by
  have h1 := az (hb p (by omega)) (n := 6) (by omega)
  obtain ⟨g1, g2⟩ := Ep hb (L := at1V b) (ll := 9) (fun _ => rfl) (by omega) (NC hb) (ae b p 6).toNat 0 jZ (p + 1) (by omega) (by omega) JC
  exact ⟨⟨g1.cells, g1.room, g1.left, by have := g1.waits; unfold dkW1; omega, g1.ok, g1.text⟩, by unfold dkW1; omega⟩
theorem JE {b : List Int} {D : Dk × Nat} (h : DkX 5 D.1) : DkX 5 (dk2V b D) := by
  unfold dk2V
  split
  · exact h.sync
  · exact h
theorem JF {b : List Int} {D : Dk × Nat} (hb : ∀ q, q ≤ 1000000 → RdOk b q) (hp : D.2 + 50 ≤ 1000000) (h : DkX 5 D.1) : DkX 10 (dkW2 b D).1 ∧ (dkW2 b D).2 ≤ D.2 + 17 := by
  have h1 := az (hb (D.2 + 1) (by omega)) (n := 6) (by omega)
  obtain ⟨g1, g2⟩ := Ep hb (L := at2V b) (ll := 5) (fun _ => rfl) (by omega) (ND hb) (ae b (D.2 + 1) 6).toNat 5 (dk2V b D) (D.2 + 2) (by omega) (by omega) (JE h)
  exact ⟨⟨g1.cells, g1.room, g1.left, by have := g1.waits; unfold dkW2; omega, g1.ok, g1.text⟩, by unfold dkW2; omega⟩
def uQ (b : List Int) : Nat → List Wt → Nat → List Wt × Nat
  | 0, ws, q => (ws, q)
  | n + 1, ws, q => if (ws.length : Int) < 100 + ae b q 2 then uQ b n (ws ++ [⟨5, ⟨#[119]⟩⟩]) (q + 1) else (ws, q + 1)
def GZ (b : List Int) (ws : List Wt) (q : Nat) : List Wt × Nat := uQ b (102 - ws.length) ws q
def badL : List Int := [-1, 42]
def uS (b : List Int) (D : Dk × Nat) : Dk × Nat :=
  if ae b D.2 24 = 0 then (⟨D.1.cells.drop 1, D.1.waits, D.1.room, D.1.left⟩, D.2 + 1)
  else if ae b D.2 24 = 1 then (⟨D.1.cells, D.1.waits, -2, D.1.left⟩, D.2 + 1)
  else if ae b D.2 24 = 2 then (⟨D.1.cells, D.1.waits ++ [⟨badL.getD (ae b (D.2 + 1) 2).toNat 0, ByteArray.empty⟩], D.1.room, D.1.left⟩, D.2 + 2)
  else if ae b D.2 24 = 3 then (⟨D.1.cells.set 0 (repS ⟨#[99]⟩ 1201), D.1.waits, D.1.room, D.1.left⟩, D.2 + 1)
  else if ae b D.2 24 = 4 then (⟨D.1.cells, D.1.waits, D.1.room, -2⟩, D.2 + 1)
  else if ae b D.2 24 = 5 then (⟨D.1.cells, (GZ b D.1.waits (D.2 + 1)).1, D.1.room, D.1.left⟩, (GZ b D.1.waits (D.2 + 1)).2)
  else (D.1, D.2 + 1)
def cO (b : List Int) (p : Nat) : Dk × Nat := uS b (fO b p)
def oddL : List Int := [-1, 100]
def xJ (b : List Int) (S : Stor × Nat) : Stor × Nat :=
  if ae b S.2 24 = 0 then (⟨S.1.disk, S.1.turn, S.1.tries, S.1.next, S.1.pages.set (ae b (S.2 + 1) 20).toNat ⟨#[111, 116, 104, 101, 114]⟩⟩, S.2 + 2)
  else if ae b S.2 24 = 1 then (⟨S.1.disk, S.1.turn, S.1.tries, S.1.next + 1, S.1.pages⟩, S.2 + 1)
  else if ae b S.2 24 = 2 then (⟨S.1.disk, S.1.turn + 1, S.1.tries, S.1.next, S.1.pages⟩, S.2 + 1)
  else if ae b S.2 24 = 3 then (⟨S.1.disk, S.1.turn, oddL.getD (ae b (S.2 + 1) 2).toNat 0, S.1.next, S.1.pages⟩, S.2 + 2)
  else if ae b S.2 24 = 4 then (⟨(cO b (S.2 + 1)).1, S.1.turn, S.1.tries, S.1.next, S.1.pages⟩, (cO b (S.2 + 1)).2)
  else if ae b S.2 24 = 5 then (⟨⟨S.1.disk.cells.set (ae b (S.2 + 1) 42).toNat (jJ b (S.2 + 2)), S.1.disk.waits, S.1.disk.room, S.1.disk.left⟩, S.1.turn, S.1.tries, S.1.next, S.1.pages⟩, S.2 + 3)
  else (S.1, S.2 + 1)
def aX (b : List Int) (p : Nat) : Stor × Nat := xJ b (fD b p)
structure DkQ (d : Dk) : Prop where
  cells : d.cells.length ≤ 42
  waits : d.waits.length ≤ 102
  room : -2 ≤ d.room ∧ d.room ≤ 10
  left : -2 ≤ d.left ∧ d.left ≤ 12
  small : ∀ k, (cellAt d.cells k).size ≤ 1201
structure StQ (s : Stor) : Prop where
  disk : DkQ s.disk
  pages : s.pages.length = 20
  turn : 0 ≤ s.turn ∧ s.turn ≤ 100000
  tries : -1 ≤ s.tries ∧ s.tries ≤ 100
  next : 0 ≤ s.next ∧ s.next ≤ 100
theorem Dv {b : List Int} (hb : ∀ q, q ≤ 1000000 → RdOk b q) : ∀ (n : Nat) (ws : List Wt) (q : Nat), q + n ≤ 1000000 → ws.length ≤ 101 → (uQ b n ws q).1.length ≤ 101 ∧ (uQ b n ws q).2 ≤ q + n
  | 0, ws, q, _, h => ⟨h, Nat.le_refl _⟩
  | n + 1, ws, q, hq, h => by
    unfold uQ
    have h1 := az (hb q (by omega)) (n := 2) (by omega)
    split
    · obtain ⟨g1, g2⟩ := Dv hb n (ws ++ [⟨5, ⟨#[119]⟩⟩]) (q + 1) (by omega) (by rw [List.length_append]; simp; omega)
      exact ⟨g1, by omega⟩
    · exact ⟨h, by dsimp only; omega⟩
theorem Qs {b : List Int} {D : Dk × Nat} {n : Nat} (hb : ∀ q, q ≤ 1000000 → RdOk b q) (hp : D.2 + 10 ≤ 1000000) (hn : n ≤ 100) (h : DkX n D.1) : DkQ (dkL b D).1 ∧ (dkL b D).2 = D.2 + 2 := by
  have h1 := az (hb D.2 (by omega)) (n := 6) (by omega)
  have h2 := az (hb (D.2 + 1) (by omega)) (n := 6) (by omega)
  have e1 : ∀ x ∈ rmL, -2 ≤ x ∧ x ≤ 10 := by decide
  have e2 : ∀ x ∈ lfL, -2 ≤ x ∧ x ≤ 12 := by decide
  exact ⟨⟨Nat.le_of_eq h.cells, by have := h.waits; show D.1.waits.length ≤ 102; omega, e1 _ (getD_mem (by show (ae b D.2 6).toNat < 6; omega)), e2 _ (getD_mem (by show (ae b (D.2 + 1) 6).toNat < 6; omega)), fun k => by have := (h.text k).2; show (cellAt D.1.cells k).size ≤ 1201; omega⟩, rfl⟩
theorem qI {b : List Int} {p : Nat} (hb : ∀ q, q ≤ 1000000 → RdOk b q) (hp : p + 150 ≤ 1000000) : DkQ (fO b p).1 ∧ (fO b p).2 ≤ p + 35 ∧ (fO b p).1.cells.length = 42 ∧ (fO b p).1.waits.length ≤ 10 ∧ (∀ w ∈ (fO b p).1.waits, (0 ≤ w.cell ∧ w.cell ≤ 41) ∧ TxB w.text) ∧ ∀ k, TxB (cellAt (fO b p).1.cells k) := by
  obtain ⟨g1, g2⟩ := JD (b := b) (p := p) hb (by omega)
  obtain ⟨g3, g4⟩ := JF (b := b) (D := dkW1 b p) hb (by omega) g1
  obtain ⟨g5, g6⟩ := Qs (b := b) (D := dkW2 b (dkW1 b p)) hb (by omega) (by omega) g3
  exact ⟨g5, by unfold fO; omega, g3.cells, g3.waits, g3.ok, g3.text⟩
theorem xK {b : List Int} {p : Nat} (hb : ∀ q, q ≤ 1000000 → RdOk b q) (hp : p + 400 ≤ 1000000) : DkQ (cO b p).1 ∧ (cO b p).2 ≤ p + 150 := by
  obtain ⟨g1, g2, g3, g4, _, g5⟩ := qI (b := b) (p := p) hb (by omega)
  unfold cO
  generalize fO b p = D at g1 g2 g3 g4 g5 ⊢
  have h1 := g1.room
  have h2 := g1.left
  unfold uS
  split
  · refine ⟨⟨by dsimp only; rw [List.length_drop]; omega, g1.waits, h1, h2, fun k => ?_⟩, by dsimp only; omega⟩
    have e : cellAt (D.1.cells.drop 1) k = cellAt D.1.cells (1 + k) := by
      unfold cellAt
      rw [List.getD_eq_getElem?_getD, List.getElem?_drop, List.getD_eq_getElem?_getD]
    dsimp only
    rw [e]
    exact g1.small _
  · split
    · exact ⟨⟨g1.cells, g1.waits, by dsimp only; omega, h2, g1.small⟩, by dsimp only; omega⟩
    · split
      · exact ⟨⟨g1.cells, by dsimp only; rw [List.length_append]; simp; omega, h1, h2, g1.small⟩, by dsimp only; omega⟩
      · split
        · refine ⟨⟨by dsimp only; rw [List.length_set]; exact g1.cells, g1.waits, h1, h2, fun k => ?_⟩, by dsimp only; omega⟩
          dsimp only
          rw [at_set]
          split
          · rw [rY]; exact Nat.le_refl _
          · exact g1.small k
        · split
          · exact ⟨⟨g1.cells, g1.waits, h1, by dsimp only; omega, g1.small⟩, by dsimp only; omega⟩
          · split
            · have := Dv hb (102 - D.1.waits.length) D.1.waits (D.2 + 1) (by omega) (by omega)
              exact ⟨⟨g1.cells, by dsimp only; unfold GZ; omega, h1, h2, g1.small⟩, by dsimp only; unfold GZ; omega⟩
            · exact ⟨g1, by dsimp only; omega⟩
theorem Drawn.nx {s : Stor} (h : Drawn s) : (1 ≤ s.turn ∧ s.turn ≤ 99999) ∧ 0 ≤ s.next ∧ s.next ≤ 20 := by
  obtain ⟨t, g⟩ := h.good
  have h5 := h.room
  have h6 := h.left
  have := o8 (s := ⟨s.disk, s.turn, t, s.next, s.pages⟩) (gV g (by dsimp only; omega) (by dsimp only; omega))
  exact ⟨g.turn, this⟩
theorem Drawn.q {s : Stor} (h : Drawn s) : StQ s := by
  obtain ⟨h1, h8⟩ := h.nx
  obtain ⟨t, g⟩ := h.good
  have h2 := g.len
  have h3 := g.waits
  have h4 := g.pages_len
  have h5 := h.room
  have h6 := h.left
  have h7 := h.tries
  dsimp only at h2 h3 h4
  exact ⟨⟨by omega, by rw [h3]; exact Nat.zero_le _, by omega, by omega, fun k => by have := g.small k; dsimp only at this; omega⟩, h4, by omega, by omega, by omega⟩
theorem jO {b : List Int} {p : Nat} (hb : ∀ q, q ≤ 1000000 → RdOk b q) (hp : p + 1000 ≤ 1000000) : StQ (aX b p).1 ∧ (aX b p).2 ≤ p + 400 := by
  obtain ⟨g1, g2⟩ := oO (b := b) (p := p) hb (by omega)
  have gq := g1.q
  have gn := g1.nx
  unfold aX
  generalize fD b p = S at g1 g2 gq gn ⊢
  have h1 := gq.turn
  have h2 := gq.tries
  have h3 := gq.next
  have h4 := az (hb (S.2 + 1) (by omega)) (n := 2) (by omega)
  unfold xJ
  split
  · exact ⟨⟨gq.disk, by dsimp only; rw [List.length_set]; exact gq.pages, h1, h2, h3⟩, by dsimp only; omega⟩
  · split
    · exact ⟨⟨gq.disk, gq.pages, h1, h2, by dsimp only; omega⟩, by dsimp only; omega⟩
    · split
      · exact ⟨⟨gq.disk, gq.pages, by dsimp only; omega, h2, h3⟩, by dsimp only; omega⟩
      · split
        · have e1 : ∀ x ∈ oddL, -1 ≤ x ∧ x ≤ 100 := by decide
          exact ⟨⟨gq.disk, gq.pages, h1, e1 _ (getD_mem (by show (ae b (S.2 + 1) 2).toNat < 2; omega)), h3⟩, by dsimp only; omega⟩
        · split
          · obtain ⟨k1, k2⟩ := xK (b := b) (p := S.2 + 1) hb (by omega)
            exact ⟨⟨k1, gq.pages, h1, h2, h3⟩, by dsimp only; omega⟩
          · split
            · refine ⟨⟨⟨by dsimp only; rw [List.length_set]; exact gq.disk.cells, gq.disk.waits, gq.disk.room, gq.disk.left, fun k => ?_⟩, gq.pages, h1, h2, h3⟩, by dsimp only; omega⟩
              dsimp only
              rw [at_set]
              split
              · have := (oM (hb (S.2 + 2) (by omega))).2; omega
              · exact gq.disk.small k
            · exact ⟨gq, by dsimp only; omega⟩
end Go.Pv
