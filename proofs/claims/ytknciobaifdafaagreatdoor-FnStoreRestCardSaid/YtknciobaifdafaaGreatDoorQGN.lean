/- The draws of the store, walked, part 21: a store with limits, what is drawn of bytes. -/
import Derived.Test.YtknciobaifdafaaGreatDoorQEZ
import Derived.Test.YtknciobaifdafaaGreatDoorQG7
set_option linter.unusedVariables false
set_option maxRecDepth 100000
set_option maxHeartbeats 4000000
set_option linter.unusedSimpArgs false
namespace Go.Pv
theorem OkS.weak {P : Program} {f : FuncId} {args : List PV} {rin : List (TypeId × List PV)} {R : Nat → Prop} {r r' : PV} {rows rows' : List (TypeId × List PV)} (h : OkS P f args rin R r rows) (hw : Weak P R ⟨[r], aH 0 rows bM⟩ ⟨[r'], aH 0 rows' bM⟩) : OkS P f args rin R r' rows' := fun w0 S0 φ D w vs hm ha =>
  (h w0 S0 φ D w vs hm ha).mono fun e w' ⟨v, φ', D', he, ht, hm, hr⟩ => by
    obtain ⟨φ2, D2, h1, h2, h3⟩ := hw w0 S0 φ' D' w' #[v] hm ⟨rfl, fun j y hj => by
      cases j with
      | zero => simp at hj; subst hj; exact hr
      | succ j => simp at hj⟩
    exact ⟨v, φ2, D2, he, ht.trans h1, h2, h3.2 0 r' rfl⟩
def Dw : List Int := [-1, -1, -1, 0, 1, 2, 4]
def Dx : List Int := [-1, -1, -1, 0, 1, 2, 3, 5]
def limS (b : List Int) (S : Stor × Nat) : Stor × Nat := (⟨⟨S.1.disk.cells, S.1.disk.waits, Dw.getD (ae b S.2 7).toNat 0, Dx.getD (ae b (S.2 + 1) 8).toNat 0⟩, S.1.turn, S.1.tries, S.1.next, S.1.pages⟩, S.2 + 2)
structure CodeOk (c : List Int) : Prop where
  byte : ∀ k, 0 ≤ c.getD k 0 ∧ c.getD k 0 ≤ 255
  len : c.length ≤ 1048576
def cut (c : List Int) : List Int := c.take 2000
theorem CodeOk.rd {c : List Int} (h : CodeOk c) : ∀ q, q ≤ 1000000 → RdOk (cut c) q := fun q hq => by
  refine ⟨fun k => ?_, ?_, hq⟩
  · unfold cut
    rw [List.getD_eq_getElem?_getD, List.getElem?_take]
    split
    · rw [← List.getD_eq_getElem?_getD]; exact h.byte k
    · exact ⟨Int.le_refl _, by decide⟩
  · unfold cut
    rw [List.length_take]
    omega
def oP (c : List Int) : Stor := (limS (cut c) (aX (cut c) 0)).1
def kz (c : List Int) : Stor × Int × Int := ((aX (cut c) 0).1, ae (cut c) (aX (cut c) 0).2 6 - 2, ae (cut c) ((aX (cut c) 0).2 + 1) 6 - 2)
theorem StQ.lim {b : List Int} {S : Stor × Nat} (h : StQ S.1) (hb : ∀ q, q ≤ 1000000 → RdOk b q) (hq : S.2 + 5 ≤ 1000000) : StQ (limS b S).1 := by
  have h1 := az (hb S.2 (by omega)) (n := 7) (by omega)
  have h2 := az (hb (S.2 + 1) (by omega)) (n := 8) (by omega)
  exact ⟨⟨h.disk.cells, h.disk.waits, (by decide : ∀ x ∈ Dw, -2 ≤ x ∧ x ≤ 10) _ (getD_mem (by show (ae b S.2 7).toNat < 7; omega)), (by decide : ∀ x ∈ Dx, -2 ≤ x ∧ x ≤ 12) _ (getD_mem (by show (ae b (S.2 + 1) 8).toNat < 8; omega)), h.disk.small⟩, h.pages, h.turn, h.tries, h.next⟩
theorem IX {c : List Int} (h : CodeOk c) : StQ (oP c) := by
  obtain ⟨h1, h2⟩ := jO (p := 0) h.rd (by omega)
  exact h1.lim h.rd (by omega)
theorem Lh {c : List Int} (h : CodeOk c) : StQ (kz c).1 ∧ (-2 ≤ (kz c).2.1 ∧ (kz c).2.1 ≤ 4) ∧ -2 ≤ (kz c).2.2 ∧ (kz c).2.2 ≤ 4 := by
  obtain ⟨h1, h2⟩ := jO (p := 0) h.rd (by omega)
  have h3 := az (h.rd (aX (cut c) 0).2 (by omega)) (n := 6) (by omega)
  have h4 := az (h.rd ((aX (cut c) 0).2 + 1) (by omega)) (n := 6) (by omega)
  unfold kz
  dsimp only
  exact ⟨h1, by omega, by omega⟩
end Go.Pv
namespace Go.Proofs.YtknciobaifdafaaGreatDoor.T
open Go Go.Pv Go.Proofs.YtknciobaifdafaaGreatDoor.EF
theorem Et {P : Program} {n : Nat} {b : List Int} : Cln P (.val n (b.map vU8)) := Cln.val fun x hx => by
  obtain ⟨y, _, rfl⟩ := List.mem_map.1 hx
  exact Cln.b _
theorem rZ {P : Program} {i o : Nat} : HOk P (.ptr i o) := .inr (.inl ⟨_, _, rfl⟩)
theorem Eu {b : List Int} {p : Nat} : ∀ z ∈ cRd b p, HOk Tryz.prog z := fun z hz => (rd_h b p 1 z hz).1
theorem Qz (b : List Int) (p : Nat) (hb : ∀ q, q ≤ 1000000 → RdOk b q) (hp : p + 1000 ≤ 1000000) : OkS Tryz.prog 65 [.ptr 0 0] [(123, cRd b p)] (fun i => i = 0) (aN (aX b p).1) [(123, cRd b (aX b p).2)] := by
  by_cases hns : kT b p
  · exact NL b p hb hp hns
  · refine (NK b p hb hp hns).weak ?_
    generalize aX b p = S
    simp only [aH]
    exact kp [⟨0, 0, 123, (cRd b S.2)⟩]
theorem Ew {mem : Mem} {j : Nat} (b : List Int) {p : Nat} (hj : mem j = .row 123 (cRd b p)) (hb : ∀ q, q ≤ 1000000 → RdOk b q) (hp : p + 1000 ≤ 1000000) : aK Tryz.prog 65 [.ptr j 0] mem fun y m => y = aN (aX b p).1 ∧ m = upd mem j (.row 123 (cRd b (aX b p).2)) :=
  aK.frame1 (news := []) 0 (Qz b p hb hp) rfl hj rfl rfl (fun e he => by cases he) (fun i hi => absurd hi (Nat.not_lt_zero _)) (fun x hx => by rw [List.mem_singleton.1 hx]; exact jd (by decide)) (rd_h b p 1) (show GOk Tryz.prog _ from fun z hz => by
      simp only [List.mem_cons, List.not_mem_nil, or_false] at hz
      rcases hz with rfl | rfl | rfl | rfl | rfl | rfl | rfl | rfl <;> first | exact HOk.b _ | exact dF | exact dB) (fun z hz => (rd_h b _ 1 z hz).1) (fun e he => by cases he)
theorem QX (b : List Int) (S : Stor × Nat) (hb : ∀ q, q ≤ 1000000 → RdOk b q) (hp : S.2 + 5 ≤ 1000000) : OkS Tryz.prog 85 [.ptr 0 0, aN S.1] [(123, cRd b S.2)] (fun i => i = 0) (aN (limS b S).1) [(123, cRd b (limS b S).2)] := by
  obtain ⟨s, q⟩ := S
  dsimp only at hp ⊢
  have hOr : ∀ {mem : Mem} {k : Nat}, mem 0 = .row 123 (cRd b q) → mem k = .row 3 (Dw.map vI) → _ := fun {mem k} hj hk => oneR (mem := mem) (j := 0) (k := k) b Dw hj hk (hb q (by omega)) (by decide) (by decide)
  have hOl : ∀ {mem : Mem} {k : Nat}, mem 0 = .row 123 (cRd b (q + 1)) → mem k = .row 3 (Dx.map vI) → _ := fun {mem k} hj hk => oneR (mem := mem) (j := 0) (k := k) b Dx hj hk (hb (q + 1) (by omega)) (by decide) (by decide)
  rw [show (Dw.length : Int) = 7 from rfl] at hOr
  rw [show (Dx.length : Int) = 8 from rfl] at hOl
  unfold limS
  dsimp only
  generalize Dw.getD (ae b q 7).toNat 0 = r1 at hOr ⊢
  generalize Dx.getD (ae b (q + 1) 8).toNat 0 = l1 at hOl ⊢
  refine stS Tryz.func85 [.cell 4 35] 16 rfl rfl rfl ?_
  repeat' first | refine sS ?_ | ((with_reducible show aC ..); first | refine cM rfl rfl rfl rfl (hOr (by simp only [upd]; rfl) (by simp only [upd]; rfl)) ?_ | refine cM rfl rfl rfl rfl (hOl (by simp only [upd]; rfl) (by simp only [upd]; rfl)) ?_) | refine sO (fun K' hK' => ?_) | (refine sE hK' ?_; clear hK') | refine sU ?_ ?_ | exact sX | ((with_reducible first | refine En.ret ?_ | refine En.normal ?_); simp only [go_sem, Nat.reduceAdd, Nat.reduceEqDiff, Nat.reduceLT, Nat.reduceLeDiff]) | (simp only [go_sem, Nat.reduceAdd, Nat.reduceMul, Nat.reduceEqDiff, Nat.reduceLT, Nat.reduceLeDiff]; (all_goals fail_if_success show False)) | fail
  all_goals exact kp [⟨0, 0, 123, (cRd b (q + 2))⟩]
theorem PI {mem : Mem} {j : Nat} (b : List Int) (S : Stor × Nat) (hj : mem j = .row 123 (cRd b S.2)) (hb : ∀ q, q ≤ 1000000 → RdOk b q) (hp : S.2 + 5 ≤ 1000000) : aK Tryz.prog 85 [.ptr j 0, aN S.1] mem fun y m => y = aN (limS b S).1 ∧ m = upd mem j (.row 123 (cRd b (limS b S).2)) :=
  aK.frame1 (news := []) 0 (QX b S hb hp) rfl hj rfl rfl (fun e he => by cases he) (fun i hi => absurd hi (Nat.not_lt_zero _)) (fun x hx => by
      simp only [List.mem_cons, List.not_mem_nil, or_false] at hx
      rcases hx with rfl | rfl
      · exact jd (by decide)
      · refine ⟨fun z hz => ?_, fun z hz => ?_⟩
        all_goals
          simp only [List.mem_cons, List.not_mem_nil, or_false] at hz
          rcases hz with rfl | rfl | rfl | rfl | rfl | rfl | rfl | rfl
          all_goals first | exact dB | exact dF | exact HOk.b _ | trivial) (rd_h b S.2 1) (show GOk Tryz.prog _ from fun z hz => by
      simp only [List.mem_cons, List.not_mem_nil, or_false] at hz
      rcases hz with rfl | rfl | rfl | rfl | rfl | rfl | rfl | rfl <;> first | exact HOk.b _ | exact dF | exact dB) (fun z hz => (rd_h b _ 1 z hz).1) (fun e he => by cases he)
theorem G6 (c : List Int) (hc : CodeOk c) : Ok Tryz.prog 37 [.val c.length (c.map vU8)] (aN (oP c)) [] := by
  have hO := wQ c hc.len
  have hq := (jO (p := 0) hc.rd (by omega)).2
  have hA : ∀ {mem : Mem}, mem 32784 = .row 123 (cRd (cut c) 0) → _ := fun {mem} hj => Ew (mem := mem) (j := 32784) (cut c) hj hc.rd (by omega)
  have hL : ∀ {mem : Mem}, mem 32784 = .row 123 (cRd (cut c) (aX (cut c) 0).2) → _ := fun {mem} hj => PI (mem := mem) (j := 32784) (cut c) (aX (cut c) 0) hj hc.rd (by omega)
  unfold oP
  generalize aX (cut c) 0 = S at hA hL hq ⊢
  generalize limS (cut c) S = S2 at hL ⊢
  rw [show c.take 2000 = cut c from rfl] at hO
  generalize cut c = b at hO hA hL
  refine stO Tryz.func37 [.cell 2 35] 10 rfl rfl rfl ?_
  repeat' first | refine sS ?_ | ((with_reducible show aC ..); first | refine cM rfl rfl rfl rfl (hA (by simp only [upd]; rfl)) ?_ | refine cM rfl rfl rfl rfl (hL (by simp only [upd]; rfl)) ?_ | refine cR rfl rfl rfl rfl hO ?_) | refine sO (fun K' hK' => ?_) | (refine sE hK' ?_; clear hK') | ((with_reducible first | refine En.ret ?_ | refine En.normal ?_); simp only [go_sem, Nat.reduceAdd, Nat.reduceMul, Nat.reduceEqDiff, Nat.reduceLT, Nat.reduceLeDiff]) | (simp only [go_sem, Nat.reduceAdd, Nat.reduceMul, Nat.reduceEqDiff, Nat.reduceLT, Nat.reduceLeDiff]; (all_goals fail_if_success show False)) | fail
  all_goals exact kp []
theorem IY (c : List Int) (hc : CodeOk c) : Ok Tryz.prog 23 [.val c.length (c.map vU8)] (.tup [aN (kz c).1, vI (kz c).2.1, vI (kz c).2.2]) [] := by
  have hO := wQ c hc.len
  have hq := (jO (p := 0) hc.rd (by omega)).2
  have h3 := az (hc.rd (aX (cut c) 0).2 (by omega)) (n := 6) (by omega)
  have h4 := az (hc.rd ((aX (cut c) 0).2 + 1) (by omega)) (n := 6) (by omega)
  have hA : ∀ {mem : Mem}, mem 32784 = .row 123 (cRd (cut c) 0) → _ := fun {mem} hj => Ew (mem := mem) (j := 32784) (cut c) hj hc.rd (by omega)
  have hP : ∀ {mem : Mem}, mem 32784 = .row 123 (cRd (cut c) (aX (cut c) 0).2) → _ := fun {mem} hj => gB (mem := mem) (j := 32784) (cut c) 6 hj (hc.rd _ (by omega))
  have hQ : ∀ {mem : Mem}, mem 32784 = .row 123 (cRd (cut c) ((aX (cut c) 0).2 + 1)) → _ := fun {mem} hj => gB (mem := mem) (j := 32784) (cut c) 6 hj (hc.rd _ (by omega))
  unfold kz
  dsimp only
  generalize aX (cut c) 0 = S at hA hP hQ hq h3 h4 ⊢
  generalize ae (cut c) S.2 6 = x at hP h3 ⊢
  generalize ae (cut c) (S.2 + 1) 6 = y at hQ h4 ⊢
  rw [show c.take 2000 = cut c from rfl] at hO
  generalize cut c = b at hO hA hP hQ
  have w1 : IntKind.i64.wrap (x - 2) = x - 2 := af (by omega) (by omega)
  have w2 : IntKind.i64.wrap (y - 2) = y - 2 := af (by omega) (by omega)
  refine stO Tryz.func23 [.cell 2 35, .tmp 3, .tmp 4] 16 rfl rfl rfl ?_
  repeat' first | refine sS ?_ | ((with_reducible show aC ..); first | refine cM rfl rfl rfl rfl (hA (by simp only [upd]; rfl)) ?_ | refine cM rfl rfl rfl rfl (hP (by simp only [upd]; rfl)) ?_ | refine cM rfl rfl rfl rfl (hQ (by simp only [upd]; rfl)) ?_ | refine cR rfl rfl rfl rfl hO ?_) | refine sO (fun K' hK' => ?_) | (refine sE hK' ?_; clear hK') | ((with_reducible first | refine En.ret ?_ | refine En.normal ?_); simp only [go_sem, Nat.reduceAdd, Nat.reduceMul, Nat.reduceEqDiff, Nat.reduceLT, Nat.reduceLeDiff]) | (simp only [go_sem, Nat.reduceAdd, Nat.reduceMul, Nat.reduceEqDiff, Nat.reduceLT, Nat.reduceLeDiff, w1, w2]; (all_goals fail_if_success show False)) | fail
  all_goals exact kp []
end Go.Proofs.YtknciobaifdafaaGreatDoor.T
