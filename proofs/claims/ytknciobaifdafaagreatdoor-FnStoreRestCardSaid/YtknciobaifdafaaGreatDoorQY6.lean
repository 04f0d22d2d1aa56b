/- Walks of the store's functions, part 24: the program writes and syncs a disk in place. -/
import Derived.Test.YtknciobaifdafaaGreatDoorQEZ
import Derived.Test.YtknciobaifdafaaGreatDoorQD
import Derived.Test.YtknciobaifdafaaGreatDoorQS0
import Derived.Test.YtknciobaifdafaaGreatDoorQT
import Derived.Test.YtknciobaifdafaaGreatDoorQM1
import Derived.Test.YtknciobaifdafaaGreatDoorQN
import Derived.Test.YtknciobaifdafaaGreatDoorQY
import Derived.Test.YtknciobaifdafaaGreatDoorQS5
import Derived.Test.YtknciobaifdafaaGreatDoorQU
set_option linter.unusedVariables false
set_option maxRecDepth 100000
set_option maxHeartbeats 4000000
set_option linter.unusedSimpArgs false
namespace Go.Proofs.YtknciobaifdafaaGreatDoor.T
open Go Go.Pv Go.Proofs.YtknciobaifdafaaGreatDoor.EF
abbrev lL (d : Dk) : List (TypeId × List PV) := [(33, [.ref 1 0 d.cells.length, .ref 2 0 d.waits.length, vI d.room, vI d.left]), (9, d.cells.map vS), (110, d.waits.flatMap cWt)]
abbrev K01 : Nat → Prop := fun i => i = 0 ∨ i = 1
theorem MQ {n : Int} : max (n - 1) (min n 0) = au n := by unfold au; omega
theorem Ir (d : Dk) (cell : Int) (text : ByteArray) (hd : DkB d) (h0 : ¬ d.left = 0) (h : ¬ (wtOk ⟨cell, text⟩ = false ∨ d.room = 0 ∨ 100 ≤ d.waits.length)) :
    OkS Tryz.prog 99 [.ptr 0 0, vI cell, vS text] (lL d) K01 (vB true) (lL ⟨d.cells, d.waits ++ [⟨cell, text⟩], au d.room, au d.left⟩) := by
  have h2 := hd.waits
  have hr := hd.room
  have hl := hd.left
  have hw : 0 ≤ cell ∧ cell ≤ 41 ∧ text.size ≤ 1200 := by
    simp only [not_or, Bool.not_eq_false] at h
    have := h.1
    unfold wtOk at this
    rw [Bool.and_eq_true] at this
    exact ⟨(of_decide_eq_true this.1).1, (of_decide_eq_true this.1).2, of_decide_eq_true this.2⟩
  simp only [not_or] at h
  refine stS Tryz.func99 [.tmp 6] 77 rfl rfl rfl ?_
  repeat' first | refine sS ?_ | ((with_reducible show aC ..); refine cF rfl rfl rfl rfl (xx _) ?_) | refine sO (fun K' hK' => ?_) | (refine sI (fun hg => ?_) (fun hg K' hK' => ?_) <;> try exact sZ hg) | refine yA (fun K' hA' => ?_) | ((with_reducible show W _ _ (.region 7 _ _) _ _); refine sV 14 ?_) | ((with_reducible show W _ _ (.region 6 _ _) _ _); refine sV 14 ?_) | (refine sE hK' ?_; clear hK') | (refine sE hA' ?_; clear hA') | (refine sD (fun hc => ?_) (fun hc => ?_) <;> try exact sZ hc) | refine sU ?_ ?_ | exact sX | ((with_reducible first | refine En.ret ?_ | refine En.normal ?_); simp only [go_sem]) | (simp only [go_sem, Nat.reduceAdd, Nat.reduceMul, Nat.reduceEqDiff, Nat.reduceLT, Nat.reduceLeDiff]; (all_goals fail_if_success show False)) | fail
  rw [af (x := d.left - 1) (by omega) (by omega), af (x := d.room - 1) (by omega) (by omega), MQ, MQ, show d.waits.length + 1 = (d.waits ++ [⟨cell, text⟩] : List Wt).length by simp, show d.waits.flatMap cWt ++ [PV.b (Value.int IntKind.i64 cell), PV.b (Value.string text)] = (d.waits ++ [⟨cell, text⟩] : List Wt).flatMap cWt by simp [cWt]]
  exact kp [⟨0, 0, 33, [.ref 1 0 d.cells.length, .ref 2 0 (d.waits ++ [⟨cell, text⟩] : List Wt).length, vI (au d.room), vI (au d.left)]⟩, ⟨1, 1, 9, (d.cells.map vS)⟩, ⟨98448, 2, 110, ((d.waits ++ [⟨cell, text⟩] : List Wt).flatMap cWt)⟩]
theorem x8 (d : Dk) (cell : Int) (text : ByteArray) (hd : DkB d) (h : d.left = 0 ∨ (wtOk ⟨cell, text⟩ = false ∨ d.room = 0 ∨ 100 ≤ d.waits.length)) :
    OkS Tryz.prog 99 [.ptr 0 0, vI cell, vS text] (lL d) (fun i => i = 0 ∨ i = 1 ∨ i = 2) (vB (aO d cell text).2) (lL d) := by
  have h2 := hd.waits
  have hw : ∀ (a : 0 ≤ cell ∧ cell ≤ 41) (b : ¬ 1200 < text.size), wtOk ⟨cell, text⟩ = true := fun a b => by
    unfold wtOk
    rw [Bool.and_eq_true]
    exact ⟨decide_eq_true a, decide_eq_true (Nat.le_of_not_lt b)⟩
  have hb1 : ¬ (0 ≤ cell ∧ cell ≤ 41) → wtOk ⟨cell, text⟩ = false := fun a => by
    unfold wtOk
    rw [show decide (0 ≤ (⟨cell, text⟩ : Wt).cell ∧ (⟨cell, text⟩ : Wt).cell ≤ 41) = false from decide_eq_false a]
    rfl
  have hb2 : 1200 < text.size → wtOk ⟨cell, text⟩ = false := fun a => by
    unfold wtOk
    rw [show decide ((⟨cell, text⟩ : Wt).text.size ≤ 1200) = false from decide_eq_false (Nat.not_le_of_lt a), Bool.and_false]
  refine stS Tryz.func99 [.tmp 6] 77 rfl rfl rfl ?_
  repeat' first | refine sS ?_ | ((with_reducible show aC ..); refine cF rfl rfl rfl rfl (xx _) ?_) | refine sO (fun K' hK' => ?_) | refine sY ?_ | (refine sI (fun hg => ?_) (fun hg K' hK' => ?_) <;> try exact sZ hg) | refine yA (fun K' hA' => ?_) | ((with_reducible show W _ _ (.region 7 _ _) _ _); refine sV 14 ?_) | ((with_reducible show W _ _ (.region 6 _ _) _ _); refine sV 14 ?_) | (refine sE hK' ?_; clear hK') | (refine sE hA' ?_; clear hA') | (refine sD (fun hc => ?_) (fun hc => ?_) <;> try exact sZ hc) | refine sU ?_ ?_ | exact sX | ((with_reducible first | refine En.ret ?_ | refine En.normal ?_); simp only [go_sem]) | (simp only [go_sem, Nat.reduceAdd, Nat.reduceMul, Nat.reduceEqDiff, Nat.reduceLT, Nat.reduceLeDiff]; (all_goals fail_if_success show False)) | fail
  · rw [kY hc]
    exact Weak.keep rfl (by simp [All2, vw, vwA, vwC, Cln.b])
  · rw [jY (by assumption) (.inl (hb1 hg))]
    exact Weak.keep rfl (by simp [All2, vw, vwA, vwC, Cln.b])
  · rw [jY (by assumption) (.inl (hb2 (by omega)))]
    exact Weak.keep rfl (by simp [All2, vw, vwA, vwC, Cln.b])
  · rw [jY (by assumption) (.inr (.inl hg))]
    exact Weak.keep rfl (by simp [All2, vw, vwA, vwC, Cln.b])
  · rw [jY (by assumption) (.inr (.inr (by omega)))]
    exact Weak.keep rfl (by simp [All2, vw, vwA, vwC, Cln.b])
  · exfalso
    have h5 := hw (by assumption) (by omega)
    rw [h5] at h
    rcases h with h | h | h | h
    · contradiction
    · cases h
    · contradiction
    · omega
theorem Iu (d : Dk) (h0 : d.left = 0) : OkS Tryz.prog 101 [.ptr 0 0] (lL d) K01 (.tup []) (lL d) := by
  refine stS Tryz.func101 [] 45 rfl rfl rfl ?_
  repeat' first | refine sS ?_ | refine sO (fun K' hK' => ?_) | (refine sE hK' ?_; clear hK') | (refine sD (fun hc => ?_) (fun hc => ?_) <;> try exact sZ hc) | ((with_reducible first | refine En.ret ?_ | refine En.normal ?_); simp only [go_sem]) | (simp only [go_sem, Nat.reduceAdd, Nat.reduceEqDiff, Nat.reduceLT]; (all_goals fail_if_success show False)) | fail
  exact Weak.keep rfl (by simp [All2, vw])
theorem MS (d : Dk) (hd : DkB d) (h0 : ¬ d.left = 0) : OkS Tryz.prog 101 [.ptr 0 0] (lL d) K01 (.tup []) (lL (aV d)) := by
  have h2 := hd.waits
  have hr := hd.room
  have hl := hd.left
  have hw : ∀ k, k < d.waits.length → 0 ≤ (d.waits.getD k wt0).cell ∧ (d.waits.getD k wt0).cell ≤ 41 := fun k hk => hd.ok _ (fV hk)
  have hcl := hd.cells
  have hs : aV d = ⟨aj d.cells d.waits, [], d.room, au d.left⟩ := if_neg h0
  refine stS Tryz.func101 [] 45 rfl rfl rfl ?_
  repeat' first | refine sS ?_ | refine sO (fun K' hK' => ?_) | (refine sE hK' ?_; clear hK') | (refine sD (fun hc => ?_) (fun hc => ?_) <;> try exact sZ hc) | (simp only [go_sem, Nat.reduceAdd, Nat.reduceEqDiff, Nat.reduceLT]; (all_goals fail_if_success show False)) | fail
  refine W.loop (fun i : Nat => ⟨[.ptr 0 0, .any, .any, .any, .any, .any, .any, .any, .any, .any, .any, .any, .ref 2 0 d.waits.length, vI d.waits.length, vI i, .any, .any, .any, .any, .any, .any, .any, .any, .any, .any, .any, .any, .any, .any, .any, .any, .any, .any, .any, .any, .any, .any, .any, .any, .any, .any, .any, .any, .any, .any], aZ [(0, 33, [.ref 1 0 d.cells.length, .ref 2 0 d.waits.length, vI d.room, vI d.left]), (1, 9, (aj d.cells (d.waits.take i)).map vS), (2, 110, d.waits.flatMap cWt)]⟩)
    (fun i => i ≤ d.waits.length ∧ (aj d.cells (d.waits.take i)).length = d.cells.length) (fun i => d.waits.length - i) 0 ?wk0 ⟨Nat.zero_le _, rfl⟩ (fun i hi => ?_)
  case wk0 => exact kp [⟨0, 0, 33, [.ref 1 0 d.cells.length, .ref 2 0 d.waits.length, vI d.room, vI d.left]⟩, ⟨1, 1, 9, (d.cells.map vS)⟩, ⟨2, 2, 110, (d.waits.flatMap cWt)⟩]
  obtain ⟨hi, hlen⟩ := hi
  have hwi := hw i
  by_cases hil : i < d.waits.length
  · have hdr := dG hil
    repeat' first | refine sS ?_ | refine sO (fun K' hK' => ?_) | refine yA (fun K' hA' => ?_) | ((with_reducible show W _ _ (.region 4 _ _) _ _); refine sV 9 ?_) | (refine sE hK' ?_; clear hK') | (refine sE hA' ?_; clear hA') | (refine sD (fun hc => ?_) (fun hc => ?_) <;> try exact sZ hc) | refine sU ?_ ?_ | exact sX | (simp only [go_sem, Nat.reduceAdd, Nat.reduceMul, Nat.reduceEqDiff, Nat.reduceLT, Nat.reduceLeDiff, hdr, List.take_succ_cons, List.take_zero, List.length_cons]; (all_goals fail_if_success show False)) | fail
    refine Rnd.normal (i + 1) ⟨by omega, by rw [eQ hil, List.length_set]; exact hlen⟩ (by omega) ?_
    rw [af (x := (i : Int) + 1) (by omega) (by omega), eQ hil, dm]
    exact kp [⟨0, 0, 33, [.ref 1 0 d.cells.length, .ref 2 0 d.waits.length, vI d.room, vI d.left]⟩, ⟨1, 1, 9, (((aj d.cells (d.waits.take i)).set (d.waits.getD i wt0).cell.toNat (d.waits.getD i wt0).text).map vS)⟩, ⟨2, 2, 110, (d.waits.flatMap cWt)⟩]
  · repeat' first | refine sS ?_ | refine sO (fun K' hK' => ?_) | refine yA (fun K' hA' => ?_) | ((with_reducible show W _ _ (.region 7 _ _) _ _); refine sV 14 ?_) | (refine sE hK' ?_; clear hK') | (refine sE hA' ?_; clear hA') | (refine sD (fun hc => ?_) (fun hc => ?_) <;> try exact sZ hc) | ((with_reducible first | refine En.ret ?_ | refine En.normal ?_); simp only [go_sem]) | (simp only [go_sem, Nat.reduceAdd, Nat.reduceEqDiff, Nat.reduceLT, Nat.reduceLeDiff]; (all_goals fail_if_success show False)) | fail
    rw [show d.waits.take i = d.waits from List.take_of_length_le (by omega)] at *
    rw [hs, ← hlen, af (x := d.left - 1) (by omega) (by omega), MQ]
    refine Weak.trans (Weak.none (k := 5) (t := 110) (by simp [upd])) ?_
    exact kp [⟨0, 0, 33, [.ref 1 0 (aj d.cells d.waits).length, .ref 2 0 0, vI d.room, vI (au d.left)]⟩, ⟨1, 1, 9, ((aj d.cells d.waits).map vS)⟩, ⟨5, 2, 110, []⟩]
end Go.Proofs.YtknciobaifdafaaGreatDoor.T
set_option linter.unusedVariables false
set_option linter.unusedSimpArgs false
namespace Go.Pv
variable {P : Program} {R : Nat → Prop} {mem : Mem}
theorem rC {σ : Nat → Nat} (l : List ByteArray) : (l.map vS).map (renC σ) = l.map vS := by rw [List.map_map]; rfl
theorem wu {σ : Nat → Nat} (l : List Wt) : (l.flatMap cWt).map (renC σ) = l.flatMap cWt := by
  induction l with
  | nil => rfl
  | cons x l ih => rw [List.flatMap_cons, List.map_append, ih]; rfl
def sig3 (a b c : Nat) : Nat → Nat := fun i => if i = 0 then a else if i = 1 then b else c
theorem aK.frame3 {f : FuncId} {args : List PV} {r : PV} {t0 t1 t2 : TypeId} {xs0 xs1 xs2 ys0 ys1 ys2 : List PV} {a b c b' c' : Nat}
    (hok : OkS P f args [(t0, xs0), (t1, xs1), (t2, xs2)] R r [(t0, ys0), (t1, ys1), (t2, ys2)]) (hR0 : R 0)
    (h0 : mem a = .row t0 (xs0.map (renC (sig3 a b c)))) (h1 : mem b = .row t1 xs1) (h2 : mem c = .row t2 xs2) (hab : a ≠ b) (hac : a ≠ c) (hbc : b ≠ c)
    (hx1 : xs1.map (renC (sig3 a b c)) = xs1) (hx2 : xs2.map (renC (sig3 a b c)) = xs2) (hy1 : ys1.map (renC (sig3 a b' c')) = ys1) (hy2 : ys2.map (renC (sig3 a b' c')) = ys2)
    (hb : (R 1 ∧ b' = b) ∨ mem b' = .free) (hc : (R 2 ∧ c' = c) ∨ mem c' = .free) (hbc' : b' ≠ c')
    (harg : ∀ x ∈ args, AOk P x ∧ inA 3 x) (hi0 : ∀ z ∈ xs0, HOk P z ∧ inC 3 z) (hi1 : ∀ z ∈ xs1, HOk P z ∧ inC 3 z) (hi2 : ∀ z ∈ xs2, HOk P z ∧ inC 3 z)
    (hr : GOk P r) (ho0 : ∀ z ∈ ys0, HOk P z) (ho1 : ∀ z ∈ ys1, HOk P z) (ho2 : ∀ z ∈ ys2, HOk P z) :
    aK P f (args.map (renA (sig3 a b c))) mem fun y m => y = ren (sig3 a b' c') r ∧
      m = upd (upd (upd (upd (upd mem b .dead) c .dead) c' (.row t2 ys2)) b' (.row t1 ys1)) a (.row t0 (ys0.map (renC (sig3 a b' c')))) := by
  have hba : a ≠ b' := fun e => by
    rcases hb with ⟨_, h⟩ | h
    · exact hab (e.trans h)
    · rw [← e, h0] at h; cases h
  have hca : a ≠ c' := fun e => by
    rcases hc with ⟨_, h⟩ | h
    · exact hac (e.trans h)
    · rw [← e, h0] at h; cases h
  refine aK.frame (sig3 a b c) (sig3 a b' c') _ hok ?_ ?_ harg ?_ ?_ ?_ hr ?_ ?_ ?_ ?_
  · intro i e he
    rcases i with _ | _ | _ | i
    · simp at he; subst he; exact h0
    · simp at he; subst he; rw [hx1]; exact h1
    · simp at he; subst he; rw [hx2]; exact h2
    · simp at he
  · intro i j hi hj e
    simp only [List.length_cons, List.length_nil] at hi hj
    have hi' : i = 0 ∨ i = 1 ∨ i = 2 := by omega
    have hj' : j = 0 ∨ j = 1 ∨ j = 2 := by omega
    rcases hi' with rfl | rfl | rfl <;> rcases hj' with rfl | rfl | rfl <;> simp [sig3] at e <;> first | rfl | exact absurd e hab | exact absurd e hac | exact absurd e hbc | exact absurd e.symm hab | exact absurd e.symm hac | exact absurd e.symm hbc
  · intro e he z hz
    simp only [List.mem_cons, List.not_mem_nil, or_false] at he
    rcases he with rfl | rfl | rfl
    · exact hi0 z hz
    · exact hi1 z hz
    · exact hi2 z hz
  · intro j hj
    simp only [List.length_cons, List.length_nil] at hj
    have hj' : j = 0 ∨ j = 1 ∨ j = 2 := by omega
    rcases hj' with rfl | rfl | rfl
    · exact .inl ⟨hR0, by simp, rfl⟩
    · rcases hb with ⟨h, e⟩ | h
      · exact .inl ⟨h, by simp, e⟩
      · exact .inr h
    · rcases hc with ⟨h, e⟩ | h
      · exact .inl ⟨h, by simp, e⟩
      · exact .inr h
  · intro i j hi hj e
    simp only [List.length_cons, List.length_nil] at hi hj
    have hi' : i = 0 ∨ i = 1 ∨ i = 2 := by omega
    have hj' : j = 0 ∨ j = 1 ∨ j = 2 := by omega
    rcases hi' with rfl | rfl | rfl <;> rcases hj' with rfl | rfl | rfl <;> simp [sig3] at e <;> first | rfl | exact absurd e hba | exact absurd e hca | exact absurd e hbc' | exact absurd e.symm hba | exact absurd e.symm hca | exact absurd e.symm hbc'
  · intro e he z hz
    simp only [List.mem_cons, List.not_mem_nil, or_false] at he
    rcases he with rfl | rfl | rfl
    · exact ho0 z hz
    · exact ho1 z hz
    · exact ho2 z hz
  · intro j e he
    rcases j with _ | _ | _ | j
    · simp at he; subst he; exact upd_same ..
    · simp at he; subst he; rw [hy1]; show upd _ a _ b' = _; rw [upd_ne _ _ (Ne.symm hba), upd_same]
    · simp at he; subst he; rw [hy2]; show upd _ a _ c' = _; rw [upd_ne _ _ (Ne.symm hca), upd_ne _ _ (Ne.symm hbc'), upd_same]
    · simp at he
  · intro k hk
    have k0 : k ≠ a := fun e => hk 0 (by simp) e.symm
    have k1 : k ≠ b' := fun e => hk 1 (by simp) e.symm
    have k2 : k ≠ c' := fun e => hk 2 (by simp) e.symm
    rw [upd_ne _ _ k0, upd_ne _ _ k1, upd_ne _ _ k2]
    by_cases ec : k = c
    · subst ec; exact .inr ⟨⟨2, by simp, rfl⟩, upd_same ..⟩
    · rw [upd_ne _ _ ec]
      by_cases eb : k = b
      · subst eb; exact .inr ⟨⟨1, by simp, rfl⟩, upd_same ..⟩
      · rw [upd_ne _ _ eb]; exact .inl rfl
  · intro i hi hk
    simp only [List.length_cons, List.length_nil] at hi hk
    have hi' : i = 0 ∨ i = 1 ∨ i = 2 := by omega
    have n0 := hk 0 (by omega)
    have n1 := hk 1 (by omega)
    have n2 := hk 2 (by omega)
    rcases hi' with rfl | rfl | rfl
    · exact absurd rfl n0
    · show upd _ a _ b = _
      rw [upd_ne _ _ (Ne.symm hab), upd_ne _ _ (Ne.symm (show b' ≠ b from n1)), upd_ne _ _ (Ne.symm (show c' ≠ b from n2)), upd_ne _ _ hbc, upd_same]
    · show upd _ a _ c = _
      rw [upd_ne _ _ (Ne.symm hac), upd_ne _ _ (Ne.symm (show b' ≠ c from n1)), upd_ne _ _ (Ne.symm (show c' ≠ c from n2)), upd_same]
end Go.Pv
namespace Go.Proofs.YtknciobaifdafaaGreatDoor.T
open Go Go.Pv Go.Proofs.YtknciobaifdafaaGreatDoor.EF
theorem Ed (l : List ByteArray) : ∀ z ∈ l.map vS, HOk Tryz.prog z ∧ inC 3 z := fun z hz => by
  obtain ⟨b, _, rfl⟩ := List.mem_map.1 hz
  exact ⟨HOk.b _, trivial⟩
theorem Jq (l : List Wt) : ∀ z ∈ l.flatMap cWt, HOk Tryz.prog z ∧ inC 3 z := fun z hz => by
  obtain ⟨x, _, h⟩ := List.mem_flatMap.1 hz
  simp only [cWt, List.mem_cons, List.not_mem_nil, or_false] at h
  rcases h with rfl | rfl <;> exact ⟨HOk.b _, trivial⟩
theorem Jr (d : Dk) : ∀ z ∈ [PV.ref 1 0 d.cells.length, .ref 2 0 d.waits.length, vI d.room, vI d.left], HOk Tryz.prog z ∧ inC 3 z := fun z hz => by
  simp only [List.mem_cons, List.not_mem_nil, or_false] at hz
  rcases hz with rfl | rfl | rfl | rfl
  · exact ⟨.inl ⟨_, _, _, rfl⟩, (by decide : (1 : Nat) < 3)⟩
  · exact ⟨.inl ⟨_, _, _, rfl⟩, (by decide : (2 : Nat) < 3)⟩
  · exact ⟨HOk.b _, trivial⟩
  · exact ⟨HOk.b _, trivial⟩
theorem OQ (cell : Int) (text : ByteArray) : ∀ x ∈ [PV.ptr 0 0, vI cell, vS text], AOk Tryz.prog x ∧ inA 3 x := fun x hx => by
  simp only [List.mem_cons, List.not_mem_nil, or_false] at hx
  rcases hx with rfl | rfl | rfl
  · exact ⟨.inr (.inl ⟨_, _, rfl⟩), (by decide : (0 : Nat) < 3)⟩
  · exact ⟨HOk.b _, trivial⟩
  · exact ⟨HOk.b _, trivial⟩
theorem OkS.mono {P : Program} {R R' : Nat → Prop} {f : FuncId} {args : List PV} {rin rout : List (TypeId × List PV)} {r : PV} (h : OkS P f args rin R r rout) (hR : ∀ i, R' i → R i) : OkS P f args rin R' r rout := fun w0 S0 φ D w vs hm ha =>
  (h w0 S0 φ D w vs hm ha).mono fun e w' ⟨v, φ', D', h1, h2, h3⟩ => ⟨v, φ', D', h1, h2.weak hR, h3⟩
theorem Iw (d : Dk) (cell : Int) (text : ByteArray) (hd : DkB d) : OkS Tryz.prog 99 [.ptr 0 0, vI cell, vS text] (lL d) K01 (vB (aO d cell text).2) (lL (aO d cell text).1) := by
  by_cases h0 : d.left = 0
  · have := OkS.mono (R' := K01) (x8 d cell text hd (.inl h0)) fun i hi => hi.imp id .inl
    rw [kY h0] at this ⊢
    exact this
  · by_cases h : wtOk ⟨cell, text⟩ = false ∨ d.room = 0 ∨ 100 ≤ d.waits.length
    · have := OkS.mono (R' := K01) (x8 d cell text hd (.inr h)) fun i hi => hi.imp id .inl
      rw [jY h0 h] at this ⊢
      exact this
    · rw [iD h0 h]
      exact Ir d cell text hd h0 h
theorem KG (d : Dk) (hd : DkB d) : OkS Tryz.prog 101 [.ptr 0 0] (lL d) K01 (.tup []) (lL (aV d)) := by
  by_cases h0 : d.left = 0
  · rw [show aV d = d from if_pos h0]
    exact Iu d h0
  · exact MS d hd h0
abbrev dRw (j1 j2 : Nat) (d : Dk) : List PV := [.ref j1 0 d.cells.length, .ref j2 0 d.waits.length, vI d.room, vI d.left]
variable {mem : Mem} {j j1 j2 : Nat}
theorem oI (K : Nat) (d : Dk) (cell : Int) (text : ByteArray) (hd : DkB d)
    (hj : mem j = .row 33 (dRw j1 j2 d)) (h1 : mem j1 = .row 9 (d.cells.map vS)) (h2 : mem j2 = .row 110 (d.waits.flatMap cWt)) (hK : mem K = .free) :
    aK Tryz.prog 99 [.ptr j 0, vI cell, vS text] mem fun y m => y = vB (aO d cell text).2 ∧ m = upd (upd (upd (upd (upd mem j1 .dead) j2 .dead) K (.row 110 ((aO d cell text).1.waits.flatMap cWt))) j1 (.row 9 ((aO d cell text).1.cells.map vS))) j (.row 33 (dRw j1 K (aO d cell text).1)) :=
  aK.frame3 (a := j) (b := j1) (c := j2) (b' := j1) (c' := K) (Iw d cell text hd) (.inl rfl) hj h1 h2 (fun e => by rw [e, h1] at hj; cases hj) (fun e => by rw [e, h2] at hj; cases hj) (fun e => by rw [e, h2] at h1; cases h1)
    (rC _) (wu _) (rC _) (wu _) (Or.inl (And.intro (Or.inr rfl) rfl)) (.inr hK) (fun e => by rw [← e, h1] at hK; cases hK) (OQ _ _) (Jr d) (Ed _) (Jq _) (show HOk Tryz.prog _ from HOk.b _) (fun z hz => (Jr (aO d cell text).1 z hz).1) (fun z hz => (Ed _ z hz).1) (fun z hz => (Jq _ z hz).1)
theorem kw (K : Nat) (d : Dk) (hd : DkB d)
    (hj : mem j = .row 33 (dRw j1 j2 d)) (h1 : mem j1 = .row 9 (d.cells.map vS)) (h2 : mem j2 = .row 110 (d.waits.flatMap cWt)) (hK : mem K = .free) :
    aK Tryz.prog 101 [.ptr j 0] mem fun y m => y = .tup [] ∧ m = upd (upd (upd (upd (upd mem j1 .dead) j2 .dead) K (.row 110 ((aV d).waits.flatMap cWt))) j1 (.row 9 ((aV d).cells.map vS))) j (.row 33 (dRw j1 K (aV d))) :=
  aK.frame3 (a := j) (b := j1) (c := j2) (b' := j1) (c' := K) (KG d hd) (.inl rfl) hj h1 h2 (fun e => by rw [e, h1] at hj; cases hj) (fun e => by rw [e, h2] at hj; cases hj) (fun e => by rw [e, h2] at h1; cases h1)
    (rC _) (wu _) (rC _) (wu _) (Or.inl (And.intro (Or.inr rfl) rfl)) (.inr hK) (fun e => by rw [← e, h1] at hK; cases hK)
    (fun x hx => by rw [List.mem_singleton.1 hx]; exact ⟨.inr (.inl ⟨_, _, rfl⟩), (by decide : (0 : Nat) < 3)⟩) (Jr d) (Ed _) (Jq _) (fun z hz => by cases hz) (fun z hz => (Jr (aV d) z hz).1) (fun z hz => (Ed _ z hz).1) (fun z hz => (Jq _ z hz).1)
end Go.Proofs.YtknciobaifdafaaGreatDoor.T
set_option linter.unusedVariables false
set_option maxRecDepth 100000
set_option maxHeartbeats 4000000
set_option linter.unusedSimpArgs false
namespace Go.Proofs.YtknciobaifdafaaGreatDoor.T
open Go Go.Pv Go.Proofs.YtknciobaifdafaaGreatDoor.EF
def endI (s : Stor) (d : Dk) (done : Stor) (code : Int) : Stor × Int := if d.left = 0 ∨ code = 3 then (cZ s d, 3) else (cZ done d, code)
theorem pJ (s : Stor) (d : Dk) (done : Stor) (code : Int) (h1 : d.cells.length ≤ 2000000) (h2 : d.waits.length ≤ 2000000) (h3 : s.pages.length ≤ 2000000) (h4 : done.pages.length ≤ 2000000) :
    Ok Tryz.prog 102 [aN s, vDk d, aN done, vI code] (.tup [dJ (endI s d done code).1, vI (endI s d done code).2]) (aJ (endI s d done code).1) := by
  have hC1 := iJ (cZ s d) h1 h2 h3
  have hC2 := iJ (cZ done d) h1 h2 h4
  refine stO Tryz.func102 [.cell 8 35, .tmp 9] 21 rfl rfl rfl ?_
  repeat' first | refine sS ?_ | ((with_reducible show aC ..); first | refine cR rfl rfl rfl rfl hC1 ?_ | refine cR rfl rfl rfl rfl hC2 ?_) | refine sO (fun K' hK' => ?_) | (refine sE hK' ?_; clear hK') | (refine sD (fun hc => ?_) (fun hc => ?_) <;> try exact sZ hc) | ((with_reducible first | refine En.ret ?_ | refine En.normal ?_); simp only [go_sem, Nat.reduceAdd, Nat.reduceMul, Nat.reduceEqDiff, Nat.reduceLT, Nat.reduceLeDiff]) | (simp only [go_sem, Nat.reduceAdd, Nat.reduceMul, Nat.reduceEqDiff, Nat.reduceLT, Nat.reduceLeDiff]; (all_goals fail_if_success show False)) | fail
  · rw [show endI s d done code = (cZ s d, 3) from if_pos (.inl (by assumption))]
    exact kp [⟨114704, 0, 9, ((cZ s d).disk.cells.map vS)⟩, ⟨114705, 1, 110, ((cZ s d).disk.waits.flatMap cWt)⟩, ⟨114706, 2, 9, ((cZ s d).pages.map vS)⟩]
  · subst hc
    rw [show endI s d done 3 = (cZ s d, 3) from if_pos (.inr rfl)]
    exact kp [⟨114704, 0, 9, ((cZ s d).disk.cells.map vS)⟩, ⟨114705, 1, 110, ((cZ s d).disk.waits.flatMap cWt)⟩, ⟨114706, 2, 9, ((cZ s d).pages.map vS)⟩]
  · rw [show endI s d done code = (cZ done d, code) from if_neg (not_or.2 ⟨by assumption, by assumption⟩)]
    exact kp [⟨114704, 0, 9, ((cZ done d).disk.cells.map vS)⟩, ⟨114705, 1, 110, ((cZ done d).disk.waits.flatMap cWt)⟩, ⟨114706, 2, 9, ((cZ done d).pages.map vS)⟩]
theorem ww {s : Stor} {d d' : Dk} (h : d' = aV d) : endI s d' s 2 = bz s d 0 := by
  subst h
  unfold endI bz
  by_cases h : (aV d).left = 0
  · rw [if_pos (.inl h), if_pos h]
  · rw [if_neg (not_or.2 ⟨h, by decide⟩), if_neg h, Int.add_zero]
    rfl
theorem KH {s : Stor} {d : Dk} : endI s d ⟨⟨[], [], 0, 0⟩, s.turn + 1, 0, 0, s.pages⟩ 0 = endS s ⟨s.disk, s.turn + 1, 0, 0, s.pages⟩ d := by
  unfold endI endS
  by_cases h : d.left = 0
  · rw [if_pos (.inl h), if_pos h]
  · rw [if_neg (not_or.2 ⟨h, by decide⟩), if_neg h]
    rfl
end Go.Proofs.YtknciobaifdafaaGreatDoor.T
set_option linter.unusedVariables false
set_option maxRecDepth 100000
set_option maxHeartbeats 4000000
set_option linter.unusedSimpArgs false
namespace Go.Proofs.YtknciobaifdafaaGreatDoor.T
open Go Go.Pv Go.Proofs.YtknciobaifdafaaGreatDoor.EF
theorem wz (s : Stor) (hb : StB s) : Ok Tryz.prog 83 [aN s] (.tup [dJ (ah s).1, vI (ah s).2]) (aJ (ah s).1) := by
  have hd := hb.disk
  have hp := hb.pages
  have ht := hb.turn
  have h1 : s.disk.cells.length ≤ 2000000 := by have := hd.cells; omega
  have h2 : s.disk.waits.length ≤ 2000000 := by have := hd.waits; omega
  have hC := iJ s h1 h2 (by omega)
  have hCd := lZ s.disk h1 h2
  have hw1 : IntKind.i64.wrap (s.turn + 1) = s.turn + 1 := af (by omega) (by omega)
  refine Ok.walk Tryz.func83 rfl ?_; simp only [kU, show Tryz.f83.ntmps = 77 from rfl, List.length_cons, List.length_nil, Nat.reduceAdd, Nat.reduceSub, List.replicate, List.cons_append, List.nil_append]
  repeat' first | (with_reducible first | refine W.seq ?_ | refine W.region ?_ | refine BB ?_ | refine ui ?_ | refine W.block ?_ | refine Seq.normal ?_ | refine Seq.ret ?_ | refine jT ?_) | ((with_reducible apply uk); (case hg => exact rfl); (case ho => exact rfl); (case hc => exact rfl); (case hf => exact rfl); (case hok => first | exact hC | exact hCd); (case hcal => first | assumption | kernel_rfl); (case hcl => (with_reducible simp only [List.map_cons, List.map_nil, List.forall_mem_cons, St.eval, List.getD_cons_zero, List.getD_cons_succ]); (repeat' with_reducible first | exact Cln.b _ | exact bi | exact bu | exact kX | refine And.intro ?_ ?_ | refine Cln.agg ?_ | rw [List.forall_mem_cons])); (case hfree => (intro q hq; simp only [List.length_cons, List.length_nil] at hq; first | (simp [upd]; (try omega); done) | ((try simp only []); (repeat rw [upd_ne _ _ (by omega)]) <;> rfl) | (simp only [upd]; (repeat' split) <;> first | rfl | omega))); (case hgo => simp [GOk, AOk, HOk.b, HOk.ref]); (case hgr => first | (simp [HOk.b]; done) | (repeat' first | exact iU | exact jX | exact iV | refine List.forall_mem_cons.2 ⟨?_, ?_⟩)); (case' h => dsimp only [put, List.set])) | ((with_reducible refine jU ?_ (fun K' hK' => ?_)); exact rfl) | ((with_reducible refine hK' _ _ ?_); clear hK'; dsimp only [put, List.set]) | ((with_reducible apply qm); (case hc => exact rfl); (case' h2 => (intro hc; replace hc := of_decide_eq_false hc)); (case' h1 => (intro hc; replace hc := of_decide_eq_true hc)); all_goals try (exfalso; first | omega | exact hc rfl | exact hc trivial | exact Bool.noConfusion hc)) | ((with_reducible first | refine Ends.ret ?_ | refine Ends.normal ?_); simp only [aRes, show Tryz.f83.results.toList = [.cell 2 35, .tmp 3] from rfl, oh, y9, oneOf, iy, fJ, List.getD_cons_zero, List.getD_cons_succ, upd, if_true, if_false, Nat.reduceEqDiff, List.drop_zero, List.take_succ_cons, List.take_zero, List.length_cons, List.length_nil, Nat.reduceAdd, true_and, Nat.reduceLeDiff, Nat.reduceLT, ti35]) | (simp only [aop, oC, qW, Option.isSome_some, Bool.and_true, St.eval, List.getD_cons_zero, List.getD_cons_succ, aBin, binI, iy, eH, fJ, jP, kF, aLen, iG, cellsOf, storable, storeL, upd, sh, shA, shC, aH, bg, Nat.mul_one, List.map_cons, List.map_nil, List.length_cons, List.length_nil, List.drop_zero, List.drop_succ_cons, List.take_succ_cons, List.take_zero, List.set_cons_zero, List.set_cons_succ, List.all_cons, List.all_nil, if_true, if_false, true_and, Nat.reduceAdd, Nat.reduceMul, Nat.reduceEqDiff, Nat.reduceLT, Nat.reduceLeDiff, Value.oneCell', Nat.zero_add, Nat.add_zero, Hw, DK, DL, se22, ti22, ti3, ti33, ti35]; (all_goals fail_if_success show False))
  · rw [show ah s = (s, 4) from if_pos (by omega)]
    exact Weak.intro [⟨49168, 0, 9, (s.disk.cells.map vS)⟩, ⟨49169, 1, 110, (s.disk.waits.flatMap cWt)⟩, ⟨49170, 2, 9, (s.pages.map vS)⟩] (by simp) (by simp) (by intro e he; simp only [List.mem_cons, List.not_mem_nil, or_false] at he; rcases he with rfl | rfl | rfl <;> refine ⟨_, by simp only [upd, if_true, if_false, Nat.reduceEqDiff]; rfl, ?_⟩ <;> first | (simp [kap]; done) | (refine bC ?_; first | exact bn | exact bJ | exact flat_nil | (repeat' with_reducible first | exact flat_nil | exact dE | exact bf | exact bD | refine Flat.cons ?_ ?_); done)) rfl (by simp [All2, vw, vwA, vwC, kap, ax]) (fun _ h => h.elim)
  refine W.loop (fun x : Nat × Dk => ⟨[.any, .ptr 0 0, .ptr 1 0, .any, .ptr 2 0, .any, .any, .any, .any, .any, .any, .any, .any, .any, .any, .any, .any, .val s.pages.length (s.pages.map vS), vI s.pages.length, vI x.1, .any, .any, .any, .any, .any, .any, .any, .any, .any, .any, .any, .any, .any, .any, .any, .any, .any, .any, .any, .any, .any, .any, .any, .any, .any, .any, .any, .any, .any, .any, .any, .any, .any, .any, .any, .any, .any, .any, .any, .any, .any, .any, .any, .any, .any, .any, .any, .any, .any, .any, .any, .any, .any, .any, .any, .any, .any], aZ [(0, 35, [.val s.disk.cells.length (s.disk.cells.map vS), .val s.disk.waits.length (s.disk.waits.flatMap cWt), vI s.disk.room, vI s.disk.left, vI s.turn, vI s.tries, vI s.next, .val s.pages.length (s.pages.map vS)]), (1, 35, [.b (.slice none 0 0), .b (.slice none 0 0), vI 0, vI 0, vI 0, vI 0, vI 0, .b (.slice none 0 0)]), (2, 33, [.ref 3 0 x.2.cells.length, .ref 4 0 x.2.waits.length, vI x.2.room, vI x.2.left]), (3, 9, x.2.cells.map vS), (4, 110, x.2.waits.flatMap cWt)]⟩)
    (fun x => x.1 ≤ 20 ∧ DkB x.2 ∧ bH s.pages 20 0 s.disk = bH s.pages (20 - x.1) x.1 x.2) (fun x => 20 - x.1) (0, s.disk) ?wk0 ⟨Nat.zero_le _, hd, rfl⟩ (fun x hx => ?_)
  case wk0 => exact Weak.intro [⟨16384, 0, 35, [.val s.disk.cells.length (s.disk.cells.map vS), .val s.disk.waits.length (s.disk.waits.flatMap cWt), vI s.disk.room, vI s.disk.left, vI s.turn, vI s.tries, vI s.next, .val s.pages.length (s.pages.map vS)]⟩, ⟨16400, 1, 35, [.b (.slice none 0 0), .b (.slice none 0 0), vI 0, vI 0, vI 0, vI 0, vI 0, .b (.slice none 0 0)]⟩, ⟨65584, 2, 33, [.ref 3 0 s.disk.cells.length, .ref 4 0 s.disk.waits.length, vI s.disk.room, vI s.disk.left]⟩, ⟨65568, 3, 9, (s.disk.cells.map vS)⟩, ⟨65569, 4, 110, (s.disk.waits.flatMap cWt)⟩] (by simp) (by simp) (by intro e he; simp only [List.mem_cons, List.not_mem_nil, or_false] at he; rcases he with rfl | rfl | rfl | rfl | rfl <;> refine ⟨_, by simp only [upd, if_true, if_false, Nat.reduceEqDiff]; rfl, ?_⟩ <;> first | (simp [All2, vwC, kap, ax, aU, bu]; done) | (refine bC ?_; first | exact bn | exact bJ | exact flat_nil | (repeat' with_reducible first | exact flat_nil | exact dE | exact bf | exact bD | refine Flat.cons ?_ ?_); done)) rfl (by simp [All2, vw, vwA, vwC, kap, ax, aU]) (fun _ h => h.elim)
  obtain ⟨i, e⟩ := x
  obtain ⟨hi, he, hrest⟩ := hx
  dsimp only at hi he hrest ⊢
  have hix : ((2 : Int) + (i : Int)).toNat = 2 + i := by omega
  have hw2 : IntKind.i64.wrap ((2 : Int) + (i : Int)) = 2 + i := af (by omega) (by omega)
  have hcl := he.cells
  have hw := he.waits
  obtain ⟨W1, hW1⟩ : ∃ W1, W1 = aO e (2 + (i : Int)) (s.pages.getD i ByteArray.empty) := ⟨_, rfl⟩
  have hB1 : DkB W1.1 := hW1 ▸ fF he _ _
  have hr1 : ∀ {mem : Mem}, mem 2 = .row 33 (dRw 3 4 e) → mem 3 = .row 9 (e.cells.map vS) → mem 4 = .row 110 (e.waits.flatMap cWt) → mem 100 = .free → _ := fun {mem} a b c d => oI (mem := mem) (j := 2) (j1 := 3) (j2 := 4) 100 e (2 + (i : Int)) (s.pages.getD i ByteArray.empty) he a b c d
  rw [← hW1] at hr1
  obtain ⟨e', he'⟩ : ∃ e', e' = aV W1.1 := ⟨_, rfl⟩
  have hr2 : ∀ {mem : Mem}, mem 2 = .row 33 (dRw 3 100 W1.1) → mem 3 = .row 9 (W1.1.cells.map vS) → mem 100 = .row 110 (W1.1.waits.flatMap cWt) → mem 101 = .free → _ := fun {mem} a b c d => kw (mem := mem) (j := 2) (j1 := 3) (j2 := 100) 101 W1.1 hB1 a b c d
  rw [← he'] at hr2
  have hBe' : DkB e' := he' ▸ fG hB1
  have hE1 := pJ s e' s 2 (by have := hBe'.cells; omega) (by have := hBe'.waits; omega) (by omega) (by omega)
  obtain ⟨e1, hS1⟩ : ∃ e1, e1 = aV e := ⟨_, rfl⟩
  have he1 : DkB e1 := hS1 ▸ fG he
  have hr3 : ∀ {mem : Mem}, mem 2 = .row 33 (dRw 3 4 e) → mem 3 = .row 9 (e.cells.map vS) → mem 4 = .row 110 (e.waits.flatMap cWt) → mem 102 = .free → _ := fun {mem} a b c d => kw (mem := mem) (j := 2) (j1 := 3) (j2 := 4) 102 e he a b c d
  rw [← hS1] at hr3
  obtain ⟨H, hH⟩ : ∃ H, H = headB (s.turn + 1) := ⟨_, rfl⟩
  have hHd := Jp (s.turn + 1) (by omega) (by omega)
  rw [← hH] at hHd
  obtain ⟨W2, hW2⟩ : ∃ W2, W2 = aO e1 ((s.turn + 1).tmod 2) H := ⟨_, rfl⟩
  have hB2 : DkB W2.1 := hW2 ▸ fF he1 _ _
  have hr4 : ∀ {mem : Mem}, mem 2 = .row 33 (dRw 3 102 e1) → mem 3 = .row 9 (e1.cells.map vS) → mem 102 = .row 110 (e1.waits.flatMap cWt) → mem 103 = .free → _ := fun {mem} a b c d => oI (mem := mem) (j := 2) (j1 := 3) (j2 := 102) 103 e1 ((s.turn + 1).tmod 2) H he1 a b c d
  rw [← hW2] at hr4
  obtain ⟨e2, he2⟩ : ∃ e2, e2 = aV W2.1 := ⟨_, rfl⟩
  have hBe2 : DkB e2 := he2 ▸ fG hB2
  have hr5 : ∀ {mem : Mem}, mem 2 = .row 33 (dRw 3 103 W2.1) → mem 3 = .row 9 (W2.1.cells.map vS) → mem 103 = .row 110 (W2.1.waits.flatMap cWt) → mem 104 = .free → _ := fun {mem} a b c d => kw (mem := mem) (j := 2) (j1 := 3) (j2 := 103) 104 W2.1 hB2 a b c d
  rw [← he2] at hr5
  have hE2 := pJ s e2 s 2 (by have := hBe2.cells; omega) (by have := hBe2.waits; omega) (by omega) (by omega)
  have hE3 := pJ s e2 ⟨⟨[], [], 0, 0⟩, s.turn + 1, 0, 0, s.pages⟩ 0 (by have := hBe2.cells; omega) (by have := hBe2.waits; omega) (by omega) (by dsimp only; omega)
  have hk : i < 20 → bH s.pages 20 0 s.disk = bH s.pages ((19 - i) + 1) i e := fun h => by rw [hrest, show 20 - i = (19 - i) + 1 by omega]
  have hx : ¬ i < 20 → bH s.pages 20 0 s.disk = (e, true) := fun h => by rw [hrest, show 20 - i = 0 by omega]; rfl
  have hrx : ¬ i < 20 → ah s = fU s e1 := fun h => by unfold ah; rw [if_neg (by omega), hx h, if_pos rfl, hS1]
  repeat' first | (with_reducible first | refine W.seq ?_ | refine W.region ?_ | refine BB ?_ | refine ui ?_ | refine xg ?_ | refine W.block ?_ | refine Seq.normal ?_ | refine Seq.ret ?_ | refine Seq.exit ?_ | refine Blk.normal ?_ | refine Blk.same ?_ | refine Blk.ret ?_ | refine Rnd.exit ?_ | refine Rnd.ret ?_ | refine jT ?_ | refine jy ?_ | refine qV ?_ ?_) | ((with_reducible apply kH); (case hg => exact rfl); (case ho => exact rfl); (case hc => exact rfl); (case hf => exact rfl); (case hM => exact hr1 (by simp only [upd]; rfl) (by simp only [upd]; rfl) (by simp only [upd]; rfl) (by simp only [upd]; rfl)); (case hcal => first | assumption | kernel_rfl); (case' h => dsimp only [put, List.set])) | ((with_reducible apply kH); (case hg => exact rfl); (case ho => exact rfl); (case hc => exact rfl); (case hf => exact rfl); (case hM => exact hr2 (by simp only [upd]; rfl) (by simp only [upd]; rfl) (by simp only [upd]; rfl) (by simp only [upd]; rfl)); (case hcal => first | assumption | kernel_rfl); (case' h => dsimp only [put, List.set])) | ((with_reducible apply kH); (case hg => exact rfl); (case ho => exact rfl); (case hc => exact rfl); (case hf => exact rfl); (case hM => exact hr3 (by simp only [upd]; rfl) (by simp only [upd]; rfl) (by simp only [upd]; rfl) (by simp only [upd]; rfl)); (case hcal => first | assumption | kernel_rfl); (case' h => dsimp only [put, List.set])) | ((with_reducible apply kH); (case hg => exact rfl); (case ho => exact rfl); (case hc => exact rfl); (case hf => exact rfl); (case hM => exact hr4 (by simp only []; rfl) (by simp only []; rfl) (by simp only []; rfl) (by simp only []; rfl)); (case hcal => first | assumption | kernel_rfl); (case' h => dsimp only [put, List.set])) | ((with_reducible apply kH); (case hg => exact rfl); (case ho => exact rfl); (case hc => exact rfl); (case hf => exact rfl); (case hM => exact hr5 (by simp only [upd]; rfl) (by simp only [upd]; rfl) (by simp only [upd]; rfl) (by simp only [upd]; rfl)); (case hcal => first | assumption | kernel_rfl); (case' h => dsimp only [put, List.set])) | ((with_reducible apply pI); (case hg => exact rfl); (case ho => exact rfl); (case hc => exact rfl); (case hf => exact rfl); (case hok => exact hE1); (case hcal => first | assumption | kernel_rfl); (case hcl => (simp [All2, vw, vwA, vwC, upd, ax, aU, dC, bu, vS, St.eval]; done)); (case how => (constructor <;> first | rfl | (simp [ownC]; done))); (case hfree => (intro q hq; simp only [List.length_cons, List.length_nil] at hq; first | (simp [upd]; (try omega); done) | ((try simp only []); (repeat rw [upd_ne _ _ (by omega)]) <;> rfl) | (simp only [upd]; (repeat' split) <;> first | rfl | omega))); (case hgo => simp [GOk, AOk, HOk.b, HOk.ref]); (case hgr => first | (simp [HOk.b]; done) | (repeat' first | exact iU | exact jX | exact iV | refine List.forall_mem_cons.2 ⟨?_, ?_⟩)); (case' h => dsimp only [put, List.set])) | ((with_reducible apply pI); (case hg => exact rfl); (case ho => exact rfl); (case hc => exact rfl); (case hf => exact rfl); (case hok => exact hE2); (case hcal => first | assumption | kernel_rfl); (case hcl => (simp [All2, vw, vwA, vwC, upd, ax, aU, dC, bu, vS, St.eval]; done)); (case how => (constructor <;> first | rfl | (simp [ownC]; done))); (case hfree => (intro q hq; simp only [List.length_cons, List.length_nil] at hq; first | (simp [upd]; (try omega); done) | ((try simp only []); (repeat rw [upd_ne _ _ (by omega)]) <;> rfl) | (simp only [upd]; (repeat' split) <;> first | rfl | omega))); (case hgo => simp [GOk, AOk, HOk.b, HOk.ref]); (case hgr => first | (simp [HOk.b]; done) | (repeat' first | exact iU | exact jX | exact iV | refine List.forall_mem_cons.2 ⟨?_, ?_⟩)); (case' h => dsimp only [put, List.set])) | ((with_reducible apply pI); (case hg => exact rfl); (case ho => exact rfl); (case hc => exact rfl); (case hf => exact rfl); (case hok => exact hE3); (case hcal => first | assumption | kernel_rfl); (case hcl => (simp [All2, vw, vwA, vwC, upd, ax, aU, dC, bu, vS, St.eval]; done)); (case how => (constructor <;> first | rfl | (simp [ownC]; done))); (case hfree => (intro q hq; simp only [List.length_cons, List.length_nil] at hq; first | (simp [upd]; (try omega); done) | ((try simp only []); (repeat rw [upd_ne _ _ (by omega)]) <;> rfl) | (simp only [upd]; (repeat' split) <;> first | rfl | omega))); (case hgo => simp [GOk, AOk, HOk.b, HOk.ref]); (case hgr => first | (simp [HOk.b]; done) | (repeat' first | exact iU | exact jX | exact iV | refine List.forall_mem_cons.2 ⟨?_, ?_⟩)); (case' h => dsimp only [put, List.set])) | ((with_reducible apply lu); (case hg => exact rfl); (case ho => exact rfl); (case hc => exact rfl); (case hf => exact rfl); (case hok => first | exact hHd); (case hcal => first | assumption | kernel_rfl); (case hcl => (with_reducible simp only [List.map_cons, List.map_nil, List.forall_mem_cons, St.eval, List.getD_cons_zero, List.getD_cons_succ]); (repeat' with_reducible first | exact Cln.b _ | exact bi | exact bu | exact kX | refine And.intro ?_ ?_ | refine Cln.agg ?_ | rw [List.forall_mem_cons])); (case' h => dsimp only [putL, List.set])) | ((with_reducible refine jU ?_ (fun K' hK' => ?_)); exact rfl) | ((with_reducible refine BC ?_ ?_); exact rfl; dsimp only [put, List.set]) | ((with_reducible apply vH); (case hg => exact rfl); (case' h1 => (intro hg; (first | replace hg := beqT hg | replace hg := BD hg | replace hg := beqF hg | replace hg := BF hg); rw [hg]; (first | replace hg := of_decide_eq_true hg | replace hg := of_decide_eq_false hg | replace hg := ndT hg | replace hg := ndF hg | replace hg := nbT hg | replace hg := nbF hg | skip); (try (exfalso; omega)); all_goals (intro K' hK'))); (case' h2 => (intro hg; (first | replace hg := beqT hg | replace hg := BD hg | replace hg := beqF hg | replace hg := BF hg); rw [hg]; dsimp only [put, List.set]; (first | replace hg := of_decide_eq_true hg | replace hg := of_decide_eq_false hg | replace hg := ndT hg | replace hg := ndF hg | replace hg := nbT hg | replace hg := nbF hg | skip); (try (exfalso; omega))))) | ((with_reducible refine mg ?_ ?_ ?_ (fun K' hA' => ?_)); exact rfl; exact rfl; exact rfl) | ((with_reducible refine hA'.1 _ ?_); clear hA'; dsimp only [putL, List.set]) | ((with_reducible refine W.drawU (id := 12) (n := 8) mixed ?_ ?_ ?_ ?_); kernel_rfl; (simp only [List.length_cons, List.length_nil]; omega); (intro k h1 h2; first | rfl | ((try simp only []); (repeat rw [upd_ne _ _ (by omega)]) <;> rfl) | (simp only [upd]; (repeat' split) <;> first | rfl | omega)); dsimp only [List.take, List.drop]) | ((with_reducible refine hK' _ _ ?_); clear hK'; dsimp only [put, List.set]) | ((with_reducible apply qm); (case hc => exact rfl); (case' h2 => (intro hc; replace hc := of_decide_eq_false hc)); (case' h1 => (intro hc; replace hc := of_decide_eq_true hc)); all_goals try (exfalso; first | omega | exact hc rfl | exact hc trivial | exact Bool.noConfusion hc)) | ((with_reducible apply qm); (case hc => exact rfl); (case' h2 => (intro hc; replace hc := nbF hc)); (case' h1 => (intro hc; replace hc := nbT hc)); all_goals try (exfalso; first | omega | exact hc rfl | exact hc trivial | exact Bool.noConfusion hc)) | ((with_reducible apply qm); (case hc => exact rfl); all_goals intro hc; all_goals try (exfalso; first | omega | exact hc rfl | exact hc trivial | exact Bool.noConfusion hc)) | (with_reducible first | refine And.intro ?_ ?_) | ((with_reducible first | show (_ : Int) < _ | show (_ : Int) ≤ _ | show (_ : Int) ≠ _ | show (_ : Nat) < _ | show (_ : Nat) ≤ _ | show (_ : Nat) ≠ _); omega) | ((with_reducible first | refine Ends.ret ?_ | refine Ends.normal ?_); simp only [aRes, show Tryz.f83.results.toList = [.cell 2 35, .tmp 3] from rfl, oh, y9, oneOf, iy, fJ, List.getD_cons_zero, List.getD_cons_succ, upd, if_true, if_false, Nat.reduceEqDiff, List.drop_zero, List.take_succ_cons, List.take_zero, List.length_cons, List.length_nil, Nat.reduceAdd, true_and, Nat.reduceLeDiff, Nat.reduceLT, ti35]) | (simp only [aop, oC, qW, List.getElem?_cons_zero, List.getElem?_cons_succ, List.length_map, Bool.and_true, aZ, St.eval, List.getD_cons_zero, List.getD_cons_succ, aBin, binI, binS, aUn, iy, eH, fJ, jP, kF, lH, lh, oU, cellsOf, storable, storeL, kG, upd, addU, sh, shA, shC, aH, bg, Int.toNat_natCast, Nat.mul_one, List.map_cons, List.map_nil, List.length_cons, List.length_nil, List.drop_zero, List.drop_succ_cons, List.take_succ_cons, List.take_zero, List.set_cons_zero, List.set_cons_succ, List.all_cons, List.all_nil, Option.bind_some, if_true, if_false, Bool.false_eq_true, true_and, Nat.reduceAdd, Nat.reduceMul, Nat.reduceEqDiff, Nat.reduceLT, Nat.reduceLeDiff, Value.cells, Value.oneCell', and_self, Nat.zero_add, Nat.add_zero, hix, hw1, hw2, zg, DK, DL, se22, sp35, ti22, ti3, ti33, ti35, ti9]; (all_goals fail_if_success show False))
  · refine Rnd.normal (i + 1, e) ⟨by dsimp only; omega, he, ?_⟩ (by dsimp only; omega) ?_
    · dsimp only
      rw [hk (by omega), uz hg, show 19 - i = 20 - (i + 1) by omega]
    · rw [af (x := (i : Int) + 1) (by omega) (by omega)]
      exact Weak.intro [⟨0, 0, 35, [.val s.disk.cells.length (s.disk.cells.map vS), .val s.disk.waits.length (s.disk.waits.flatMap cWt), vI s.disk.room, vI s.disk.left, vI s.turn, vI s.tries, vI s.next, .val s.pages.length (s.pages.map vS)]⟩, ⟨1, 1, 35, [.b (.slice none 0 0), .b (.slice none 0 0), vI 0, vI 0, vI 0, vI 0, vI 0, .b (.slice none 0 0)]⟩, ⟨2, 2, 33, [.ref 3 0 e.cells.length, .ref 4 0 e.waits.length, vI e.room, vI e.left]⟩, ⟨3, 3, 9, (e.cells.map vS)⟩, ⟨4, 4, 110, (e.waits.flatMap cWt)⟩] (by simp) (by simp) (by intro e he; simp only [List.mem_cons, List.not_mem_nil, or_false] at he; rcases he with rfl | rfl | rfl | rfl | rfl <;> refine ⟨_, by simp only [upd, if_true, if_false, Nat.reduceEqDiff]; rfl, ?_⟩ <;> first | (simp [All2, vwC, kap, ax, aU, bu]; done) | (refine bC ?_; first | exact bn | exact bJ | exact flat_nil | (repeat' with_reducible first | exact flat_nil | exact dE | exact bf | exact bD | refine Flat.cons ?_ ?_); done)) rfl (by simp [All2, vw, vwA, vwC, kap, ax, aU]) (fun _ h => h.elim)
  · have hz : endI s e' s 2 = ah s := by
      rw [ww he', hW1, oG (hW1 ▸ hc)]
      unfold ah
      rw [if_neg (by omega), hk (by omega), Gm hg (hW1 ▸ hc)]
      rfl
    rw [← hz]
    generalize endI s e' s 2 = Z
    exact Weak.intro [⟨163888, 0, 9, (Z.1.disk.cells.map vS)⟩, ⟨163889, 1, 110, (Z.1.disk.waits.flatMap cWt)⟩, ⟨163890, 2, 9, (Z.1.pages.map vS)⟩] (by simp) (by simp) (by intro e he; simp only [List.mem_cons, List.not_mem_nil, or_false] at he; rcases he with rfl | rfl | rfl <;> refine ⟨_, by simp only [upd, if_true, if_false, Nat.reduceEqDiff]; rfl, ?_⟩ <;> first | (simp [kap]; done) | (refine bC ?_; first | exact bn | exact bJ | exact flat_nil | (repeat' with_reducible first | exact flat_nil | exact dE | exact bf | exact bD | refine Flat.cons ?_ ?_); done)) rfl (by simp [All2, vw, vwA, vwC, kap, ax]) (fun _ h => h.elim)
  · refine Rnd.normal (i + 1, W1.1) ⟨by dsimp only; omega, hB1, ?_⟩ (by dsimp only; omega) ?_
    · dsimp only
      rw [hk (by omega), uA hg (hW1 ▸ hc), ← hW1, show 19 - i = 20 - (i + 1) by omega]
    · rw [af (x := (i : Int) + 1) (by omega) (by omega)]
      exact Weak.intro [⟨0, 0, 35, [.val s.disk.cells.length (s.disk.cells.map vS), .val s.disk.waits.length (s.disk.waits.flatMap cWt), vI s.disk.room, vI s.disk.left, vI s.turn, vI s.tries, vI s.next, .val s.pages.length (s.pages.map vS)]⟩, ⟨1, 1, 35, [.b (.slice none 0 0), .b (.slice none 0 0), vI 0, vI 0, vI 0, vI 0, vI 0, .b (.slice none 0 0)]⟩, ⟨2, 2, 33, [.ref 3 0 W1.1.cells.length, .ref 4 0 W1.1.waits.length, vI W1.1.room, vI W1.1.left]⟩, ⟨3, 3, 9, (W1.1.cells.map vS)⟩, ⟨100, 4, 110, (W1.1.waits.flatMap cWt)⟩] (by simp) (by simp) (by intro e he; simp only [List.mem_cons, List.not_mem_nil, or_false] at he; rcases he with rfl | rfl | rfl | rfl | rfl <;> refine ⟨_, by simp only [upd, if_true, if_false, Nat.reduceEqDiff]; rfl, ?_⟩ <;> first | (simp [All2, vwC, kap, ax, aU, bu]; done) | (refine bC ?_; first | exact bn | exact bJ | exact flat_nil | (repeat' with_reducible first | exact flat_nil | exact dE | exact bf | exact bD | refine Flat.cons ?_ ?_); done)) rfl (by simp [All2, vw, vwA, vwC, kap, ax, aU]) (fun _ h => h.elim)
  · have hz : endI s e2 s 2 = ah s := by
      rw [ww he2, hW2, oG (hW2 ▸ hc), hrx (by omega)]
      unfold fU
      rw [← hH, ← hW2, hc]
      rfl
    rw [← hz]
    generalize endI s e2 s 2 = Z
    exact Weak.intro [⟨262192, 0, 9, (Z.1.disk.cells.map vS)⟩, ⟨262193, 1, 110, (Z.1.disk.waits.flatMap cWt)⟩, ⟨262194, 2, 9, (Z.1.pages.map vS)⟩] (by simp) (by simp) (by intro e he; simp only [List.mem_cons, List.not_mem_nil, or_false] at he; rcases he with rfl | rfl | rfl <;> refine ⟨_, by simp only [upd, if_true, if_false, Nat.reduceEqDiff]; rfl, ?_⟩ <;> first | (simp [kap]; done) | (refine bC ?_; first | exact bn | exact bJ | exact flat_nil | (repeat' with_reducible first | exact flat_nil | exact dE | exact bf | exact bD | refine Flat.cons ?_ ?_); done)) rfl (by simp [All2, vw, vwA, vwC, kap, ax]) (fun _ h => h.elim)
  · have hz : endI s e2 ⟨⟨[], [], 0, 0⟩, s.turn + 1, 0, 0, s.pages⟩ 0 = ah s := by
      rw [KH, hrx (by omega), he2]
      unfold fU
      rw [← hH, ← hW2, if_pos hc]
    rw [← hz]
    generalize endI s e2 ⟨⟨[], [], 0, 0⟩, s.turn + 1, 0, 0, s.pages⟩ 0 = Z
    exact Weak.intro [⟨278656, 0, 9, (Z.1.disk.cells.map vS)⟩, ⟨278657, 1, 110, (Z.1.disk.waits.flatMap cWt)⟩, ⟨278658, 2, 9, (Z.1.pages.map vS)⟩] (by simp) (by simp) (by intro e he; simp only [List.mem_cons, List.not_mem_nil, or_false] at he; rcases he with rfl | rfl | rfl <;> refine ⟨_, by simp only [upd, if_true, if_false, Nat.reduceEqDiff]; rfl, ?_⟩ <;> first | (simp [kap]; done) | (refine bC ?_; first | exact bn | exact bJ | exact flat_nil | (repeat' with_reducible first | exact flat_nil | exact dE | exact bf | exact bD | refine Flat.cons ?_ ?_); done)) rfl (by simp [All2, vw, vwA, vwC, kap, ax]) (fun _ h => h.elim)
end Go.Proofs.YtknciobaifdafaaGreatDoor.T
set_option linter.unusedVariables false
set_option maxRecDepth 100000
set_option maxHeartbeats 4000000
set_option linter.unusedSimpArgs false
namespace Go.Proofs.YtknciobaifdafaaGreatDoor.T
open Go Go.Pv Go.Proofs.YtknciobaifdafaaGreatDoor.EF
theorem Ee (s : Stor) (h1 : s.disk.cells.length ≤ 2000000) (h2 : s.disk.waits.length ≤ 2000000) (h3 : s.pages.length ≤ 2000000) (hr : s.disk.room ≤ 9223372036854775807) (hl : s.disk.left ≤ 9223372036854775807) : Ok Tryz.prog 38 [aN s] (.tup [dJ (fM (ag s) s).1, vI (fM (ag s) s).2]) (aJ (fM (ag s) s).1) := by
  have hO := iK s (by omega) (by omega) h3
  rw [iI] at hO
  have hR : ag s = true → Ok Tryz.prog 83 [aN s] (.tup [dJ (ah s).1, vI (ah s).2]) (aJ (ah s).1) := fun h => wz s (gZ hr hl h)
  generalize ag s = b at hO hR ⊢
  cases b
  · rw [show fM false s = (bU, 1) from rfl]
    refine stO Tryz.func38 [.cell 2 35, .tmp 3] 12 rfl rfl rfl ?_
    repeat' first | refine sS ?_ | ((with_reducible show aC ..); refine cF rfl rfl rfl rfl hO ?_) | refine sO (fun K' hK' => ?_) | (refine sE hK' ?_; clear hK') | (refine sD (fun hc => ?_) (fun hc => ?_) <;> try exact sZ hc) | ((with_reducible first | refine En.ret ?_ | refine En.normal ?_); simp only [go_sem, Nat.reduceAdd, Nat.reduceEqDiff, Nat.reduceLT, Nat.reduceLeDiff, bU]) | (simp only [go_sem, Nat.reduceAdd, Nat.reduceMul, Nat.reduceEqDiff, Nat.reduceLT, Nat.reduceLeDiff, Bool.not_false]; (all_goals fail_if_success show False)) | fail
    refine Weak.trans (Weak.none (k := 5) (t := 9) (by simp [upd])) (Weak.trans (Weak.none (k := 6) (t := 110) (by simp [upd])) (Weak.trans (Weak.none (k := 7) (t := 9) (by simp [upd])) ?_))
    exact kp [⟨5, 0, 9, []⟩, ⟨6, 1, 110, []⟩, ⟨7, 2, 9, []⟩]
  · replace hR := hR rfl
    unfold fM
    rw [if_pos rfl]
    generalize ah s = Z at hR ⊢
    refine stO Tryz.func38 [.cell 2 35, .tmp 3] 12 rfl rfl rfl ?_
    repeat' first | refine sS ?_ | ((with_reducible show aC ..); first | refine cF rfl rfl rfl rfl hO ?_ | refine cR rfl rfl rfl rfl hR ?_) | refine sO (fun K' hK' => ?_) | (refine sE hK' ?_; clear hK') | (refine sD (fun hc => ?_) (fun hc => ?_) <;> try exact sZ hc) | ((with_reducible first | refine En.ret ?_ | refine En.normal ?_); simp only [go_sem, Nat.reduceAdd, Nat.reduceMul, Nat.reduceEqDiff, Nat.reduceLT, Nat.reduceLeDiff]) | (simp only [go_sem, Nat.reduceAdd, Nat.reduceMul, Nat.reduceEqDiff, Nat.reduceLT, Nat.reduceLeDiff, Bool.not_true]; (all_goals fail_if_success show False)) | fail
    exact kp [⟨65552, 0, 9, (Z.1.disk.cells.map vS)⟩, ⟨65553, 1, 110, (Z.1.disk.waits.flatMap cWt)⟩, ⟨65554, 2, 9, (Z.1.pages.map vS)⟩]
theorem wB (d : Dk) (h1 : d.cells.length ≤ 2000000) (h2 : d.waits.length ≤ 2000000) (hr : d.room ≤ 9223372036854775807) (hl : d.left ≤ 9223372036854775807) : Ok Tryz.prog 35 [vDk d] (.tup [dJ (dn (ai d)).1, vI (dn (ai d)).2]) (aJ (dn (ai d)).1) := by
  have hO := gU d h1 h2
  rw [iY] at hO
  have hR : (ai d).2 = true → Ok Tryz.prog 83 [aN (ai d).1] (.tup [dJ (ah (ai d).1).1, vI (ah (ai d).1).2]) (aJ (ah (ai d).1).1) := fun h => wz _ (lC hr hl h).1
  generalize ai d = B at hO hR ⊢
  obtain ⟨x, b⟩ := B
  cases b
  · rw [show dn (x, false) = (bU, 1) from rfl]
    refine stO Tryz.func35 [.cell 2 35, .tmp 3] 28 rfl rfl rfl ?_
    repeat' first | refine sS ?_ | ((with_reducible show aC ..); refine cR rfl rfl rfl rfl hO ?_) | refine sO (fun K' hK' => ?_) | (refine sE hK' ?_; clear hK') | (refine sD (fun hc => ?_) (fun hc => ?_) <;> try exact sZ hc) | ((with_reducible first | refine En.ret ?_ | refine En.normal ?_); simp only [go_sem, Nat.reduceAdd, Nat.reduceMul, Nat.reduceEqDiff, Nat.reduceLT, Nat.reduceLeDiff, bU]) | (simp only [go_sem, Nat.reduceAdd, Nat.reduceMul, Nat.reduceEqDiff, Nat.reduceLT, Nat.reduceLeDiff, Bool.not_false]; (all_goals fail_if_success show False)) | fail
    refine Weak.trans (Weak.none (k := 5) (t := 9) (by simp [upd])) (Weak.trans (Weak.none (k := 6) (t := 110) (by simp [upd])) (Weak.trans (Weak.none (k := 7) (t := 9) (by simp [upd])) ?_))
    exact kp [⟨5, 0, 9, []⟩, ⟨6, 1, 110, []⟩, ⟨7, 2, 9, []⟩]
  · replace hR := hR rfl
    dsimp only at hR hO
    unfold dn
    rw [if_pos rfl]
    dsimp only
    generalize ah x = Z at hR ⊢
    refine stO Tryz.func35 [.cell 2 35, .tmp 3] 28 rfl rfl rfl ?_
    repeat' first | refine sS ?_ | ((with_reducible show aC ..); first | refine cW rfl rfl rfl rfl hR ?_ | refine cR rfl rfl rfl rfl hO ?_) | refine sO (fun K' hK' => ?_) | (refine sE hK' ?_; clear hK') | (refine sD (fun hc => ?_) (fun hc => ?_) <;> try exact sZ hc) | ((with_reducible first | refine En.ret ?_ | refine En.normal ?_); simp only [go_sem, Nat.reduceAdd, Nat.reduceMul, Nat.reduceEqDiff, Nat.reduceLT, Nat.reduceLeDiff]) | (simp only [go_sem, Nat.reduceAdd, Nat.reduceMul, Nat.reduceEqDiff, Nat.reduceLT, Nat.reduceLeDiff, Bool.not_true]; (all_goals fail_if_success show False)) | fail
    · rw [show nD Z = (cZ bU Z.1.disk, Z.2) from if_neg hc]
      unfold cZ bU
      dsimp only
      refine Weak.trans (Weak.none (k := 7) (t := 9) (by simp [upd])) ?_
      exact kp [⟨81936, 0, 9, (Z.1.disk.cells.map vS)⟩, ⟨81937, 1, 110, (Z.1.disk.waits.flatMap cWt)⟩, ⟨7, 2, 9, []⟩]
    · rw [show nD Z = (Z.1, 0) from if_pos hc]
      exact kp [⟨81936, 0, 9, (Z.1.disk.cells.map vS)⟩, ⟨81937, 1, 110, (Z.1.disk.waits.flatMap cWt)⟩, ⟨81938, 2, 9, (Z.1.pages.map vS)⟩]
end Go.Proofs.YtknciobaifdafaaGreatDoor.T
