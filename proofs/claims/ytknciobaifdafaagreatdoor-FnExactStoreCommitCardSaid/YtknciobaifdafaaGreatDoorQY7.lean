/- Walks of the store's functions, part 25: write and sync in a caller's memory. -/
import Derived.Test.YtknciobaifdafaaGreatDoorQY6
set_option linter.unusedVariables false
set_option linter.unusedSimpArgs false
namespace Go.Pv
variable {P : Program} {R : Nat → Prop} {mem : Mem}
theorem renC_strs {σ : Nat → Nat} (l : List ByteArray) : (l.map vS).map (renC σ) = l.map vS := by rw [List.map_map]; rfl
theorem renC_wts {σ : Nat → Nat} (l : List Wt) : (l.flatMap cWt).map (renC σ) = l.flatMap cWt := by
  induction l with
  | nil => rfl
  | cons x l ih => rw [List.flatMap_cons, List.map_append, ih]; rfl
def sig3 (a b c : Nat) : Nat → Nat := fun i => if i = 0 then a else if i = 1 then b else c
/-- The frame rule for three rows, the first of which names the others. -/
theorem CallM.frame3 {f : FuncId} {args : List PV} {r : PV} {t0 t1 t2 : TypeId} {xs0 xs1 xs2 ys0 ys1 ys2 : List PV} {a b c b' c' : Nat}
    (hok : OkS P f args [(t0, xs0), (t1, xs1), (t2, xs2)] R r [(t0, ys0), (t1, ys1), (t2, ys2)]) (hR0 : R 0)
    (h0 : mem a = .row t0 (xs0.map (renC (sig3 a b c)))) (h1 : mem b = .row t1 xs1) (h2 : mem c = .row t2 xs2) (hab : a ≠ b) (hac : a ≠ c) (hbc : b ≠ c)
    (hx1 : xs1.map (renC (sig3 a b c)) = xs1) (hx2 : xs2.map (renC (sig3 a b c)) = xs2) (hy1 : ys1.map (renC (sig3 a b' c')) = ys1) (hy2 : ys2.map (renC (sig3 a b' c')) = ys2)
    (hb : (R 1 ∧ b' = b) ∨ mem b' = .free) (hc : (R 2 ∧ c' = c) ∨ mem c' = .free) (hbc' : b' ≠ c')
    (harg : ∀ x ∈ args, AOk P x ∧ inA 3 x) (hi0 : ∀ z ∈ xs0, HOk P z ∧ inC 3 z) (hi1 : ∀ z ∈ xs1, HOk P z ∧ inC 3 z) (hi2 : ∀ z ∈ xs2, HOk P z ∧ inC 3 z)
    (hr : GOk P r) (ho0 : ∀ z ∈ ys0, HOk P z) (ho1 : ∀ z ∈ ys1, HOk P z) (ho2 : ∀ z ∈ ys2, HOk P z) :
    CallM P f (args.map (renA (sig3 a b c))) mem fun y m => y = ren (sig3 a b' c') r ∧
      m = upd (upd (upd (upd (upd mem b .dead) c .dead) c' (.row t2 ys2)) b' (.row t1 ys1)) a (.row t0 (ys0.map (renC (sig3 a b' c')))) := by
  have hba : a ≠ b' := fun e => by
    rcases hb with ⟨_, h⟩ | h
    · exact hab (e.trans h)
    · rw [← e, h0] at h; cases h
  have hca : a ≠ c' := fun e => by
    rcases hc with ⟨_, h⟩ | h
    · exact hac (e.trans h)
    · rw [← e, h0] at h; cases h
  refine CallM.frame (sig3 a b c) (sig3 a b' c') _ hok ?_ ?_ harg ?_ ?_ ?_ hr ?_ ?_ ?_ ?_
  · intro i e he
    rcases i with _ | _ | _ | i
    · simp at he; subst he; exact h0
    · simp at he; subst he; rw [hx1]; exact h1
    · simp at he; subst he; rw [hx2]; exact h2
    · simp at he
  · intro i j hi hj e
    simp only [List.length_cons, List.length_nil] at hi hj
    have hi' : i = 0 ∨ i = 1 ∨ i = 2 := by omega
    have hj' : j = 0 ∨ j = 1 ∨ j = 2 := by omega
    rcases hi' with rfl | rfl | rfl <;> rcases hj' with rfl | rfl | rfl <;> simp [sig3] at e <;> first | rfl | exact absurd e hab | exact absurd e hac | exact absurd e hbc | exact absurd e.symm hab | exact absurd e.symm hac | exact absurd e.symm hbc
  · intro e he z hz
    simp only [List.mem_cons, List.not_mem_nil, or_false] at he
    rcases he with rfl | rfl | rfl
    · exact hi0 z hz
    · exact hi1 z hz
    · exact hi2 z hz
  · intro j hj
    simp only [List.length_cons, List.length_nil] at hj
    have hj' : j = 0 ∨ j = 1 ∨ j = 2 := by omega
    rcases hj' with rfl | rfl | rfl
    · exact .inl ⟨hR0, by simp, rfl⟩
    · rcases hb with ⟨h, e⟩ | h
      · exact .inl ⟨h, by simp, e⟩
      · exact .inr h
    · rcases hc with ⟨h, e⟩ | h
      · exact .inl ⟨h, by simp, e⟩
      · exact .inr h
  · intro i j hi hj e
    simp only [List.length_cons, List.length_nil] at hi hj
    have hi' : i = 0 ∨ i = 1 ∨ i = 2 := by omega
    have hj' : j = 0 ∨ j = 1 ∨ j = 2 := by omega
    rcases hi' with rfl | rfl | rfl <;> rcases hj' with rfl | rfl | rfl <;> simp [sig3] at e <;> first | rfl | exact absurd e hba | exact absurd e hca | exact absurd e hbc' | exact absurd e.symm hba | exact absurd e.symm hca | exact absurd e.symm hbc'
  · intro e he z hz
    simp only [List.mem_cons, List.not_mem_nil, or_false] at he
    rcases he with rfl | rfl | rfl
    · exact ho0 z hz
    · exact ho1 z hz
    · exact ho2 z hz
  · intro j e he
    rcases j with _ | _ | _ | j
    · simp at he; subst he; exact upd_same ..
    · simp at he; subst he; rw [hy1]; show upd _ a _ b' = _; rw [upd_ne _ _ (Ne.symm hba), upd_same]
    · simp at he; subst he; rw [hy2]; show upd _ a _ c' = _; rw [upd_ne _ _ (Ne.symm hca), upd_ne _ _ (Ne.symm hbc'), upd_same]
    · simp at he
  · intro k hk
    have k0 : k ≠ a := fun e => hk 0 (by simp) e.symm
    have k1 : k ≠ b' := fun e => hk 1 (by simp) e.symm
    have k2 : k ≠ c' := fun e => hk 2 (by simp) e.symm
    rw [upd_ne _ _ k0, upd_ne _ _ k1, upd_ne _ _ k2]
    by_cases ec : k = c
    · subst ec; exact .inr ⟨⟨2, by simp, rfl⟩, upd_same ..⟩
    · rw [upd_ne _ _ ec]
      by_cases eb : k = b
      · subst eb; exact .inr ⟨⟨1, by simp, rfl⟩, upd_same ..⟩
      · rw [upd_ne _ _ eb]; exact .inl rfl
  · intro i hi hk
    simp only [List.length_cons, List.length_nil] at hi hk
    have hi' : i = 0 ∨ i = 1 ∨ i = 2 := by omega
    have n0 := hk 0 (by omega)
    have n1 := hk 1 (by omega)
    have n2 := hk 2 (by omega)
    rcases hi' with rfl | rfl | rfl
    · exact absurd rfl n0
    · show upd _ a _ b = _
      rw [upd_ne _ _ (Ne.symm hab), upd_ne _ _ (Ne.symm (show b' ≠ b from n1)), upd_ne _ _ (Ne.symm (show c' ≠ b from n2)), upd_ne _ _ hbc, upd_same]
    · show upd _ a _ c = _
      rw [upd_ne _ _ (Ne.symm hac), upd_ne _ _ (Ne.symm (show b' ≠ c from n1)), upd_ne _ _ (Ne.symm (show c' ≠ c from n2)), upd_same]
end Go.Pv
namespace Go.Proofs.YtknciobaifdafaaGreatDoor.T
open Go Go.Pv Go.Proofs.YtknciobaifdafaaGreatDoor.EF
theorem strs_h (l : List ByteArray) : ∀ z ∈ l.map vS, HOk Tryz.prog z ∧ inC 3 z := fun z hz => by
  obtain ⟨b, _, rfl⟩ := List.mem_map.1 hz
  exact ⟨HOk.b _, trivial⟩
theorem wts_h (l : List Wt) : ∀ z ∈ l.flatMap cWt, HOk Tryz.prog z ∧ inC 3 z := fun z hz => by
  obtain ⟨x, _, h⟩ := List.mem_flatMap.1 hz
  simp only [cWt, List.mem_cons, List.not_mem_nil, or_false] at h
  rcases h with rfl | rfl <;> exact ⟨HOk.b _, trivial⟩
theorem dkr_h (d : Dk) : ∀ z ∈ [PV.ref 1 0 d.cells.length, .ref 2 0 d.waits.length, vI d.room, vI d.left], HOk Tryz.prog z ∧ inC 3 z := fun z hz => by
  simp only [List.mem_cons, List.not_mem_nil, or_false] at hz
  rcases hz with rfl | rfl | rfl | rfl
  · exact ⟨.inl ⟨_, _, _, rfl⟩, (by decide : (1 : Nat) < 3)⟩
  · exact ⟨.inl ⟨_, _, _, rfl⟩, (by decide : (2 : Nat) < 3)⟩
  · exact ⟨HOk.b _, trivial⟩
  · exact ⟨HOk.b _, trivial⟩
theorem wargs_h (cell : Int) (text : ByteArray) : ∀ x ∈ [PV.ptr 0 0, vI cell, vS text], AOk Tryz.prog x ∧ inA 3 x := fun x hx => by
  simp only [List.mem_cons, List.not_mem_nil, or_false] at hx
  rcases hx with rfl | rfl | rfl
  · exact ⟨.inr (.inl ⟨_, _, rfl⟩), (by decide : (0 : Nat) < 3)⟩
  · exact ⟨HOk.b _, trivial⟩
  · exact ⟨HOk.b _, trivial⟩
theorem OkS.mono {P : Program} {R R' : Nat → Prop} {f : FuncId} {args : List PV} {rin rout : List (TypeId × List PV)} {r : PV} (h : OkS P f args rin R r rout) (hR : ∀ i, R' i → R i) : OkS P f args rin R' r rout := fun w0 S0 φ D w vs hm ha =>
  (h w0 S0 φ D w vs hm ha).mono fun e w' ⟨v, φ', D', h1, h2, h3⟩ => ⟨v, φ', D', h1, h2.weak hR, h3⟩
theorem writeS_any (d : Dk) (cell : Int) (text : ByteArray) (hd : DkB d) : OkS Tryz.prog 99 [.ptr 0 0, vI cell, vS text] (dkRows d) K01 (vB (writeD d cell text).2) (dkRows (writeD d cell text).1) := by
  by_cases h0 : d.left = 0
  · have := OkS.mono (R' := K01) (writeS_same d cell text hd (.inl h0)) fun i hi => hi.imp id .inl
    rw [writeD0 h0] at this ⊢
    exact this
  · by_cases h : wtOk ⟨cell, text⟩ = false ∨ d.room = 0 ∨ 100 ≤ d.waits.length
    · have := OkS.mono (R' := K01) (writeS_same d cell text hd (.inr h)) fun i hi => hi.imp id .inl
      rw [writeD1 h0 h] at this ⊢
      exact this
    · rw [writeD2 h0 h]
      exact writeS_app d cell text hd h0 h
theorem syncS_any (d : Dk) (hd : DkB d) : OkS Tryz.prog 101 [.ptr 0 0] (dkRows d) K01 (.tup []) (dkRows (syncD d)) := by
  by_cases h0 : d.left = 0
  · rw [show syncD d = d from if_pos h0]
    exact syncS_stop d h0
  · exact syncS_ok d hd h0
abbrev dRw (j1 j2 : Nat) (d : Dk) : List PV := [.ref j1 0 d.cells.length, .ref j2 0 d.waits.length, vI d.room, vI d.left]
variable {mem : Mem} {j j1 j2 : Nat}
theorem write_run (K : Nat) (d : Dk) (cell : Int) (text : ByteArray) (hd : DkB d)
    (hj : mem j = .row 33 (dRw j1 j2 d)) (h1 : mem j1 = .row 9 (d.cells.map vS)) (h2 : mem j2 = .row 110 (d.waits.flatMap cWt)) (hK : mem K = .free) :
    CallM Tryz.prog 99 [.ptr j 0, vI cell, vS text] mem fun y m => y = vB (writeD d cell text).2 ∧ m = upd (upd (upd (upd (upd mem j1 .dead) j2 .dead) K (.row 110 ((writeD d cell text).1.waits.flatMap cWt))) j1 (.row 9 ((writeD d cell text).1.cells.map vS))) j (.row 33 (dRw j1 K (writeD d cell text).1)) :=
  CallM.frame3 (a := j) (b := j1) (c := j2) (b' := j1) (c' := K) (writeS_any d cell text hd) (.inl rfl) hj h1 h2 (fun e => by rw [e, h1] at hj; cases hj) (fun e => by rw [e, h2] at hj; cases hj) (fun e => by rw [e, h2] at h1; cases h1)
    (renC_strs _) (renC_wts _) (renC_strs _) (renC_wts _) (Or.inl (And.intro (Or.inr rfl) rfl)) (.inr hK) (fun e => by rw [← e, h1] at hK; cases hK) (wargs_h _ _) (dkr_h d) (strs_h _) (wts_h _) (show HOk Tryz.prog _ from HOk.b _) (fun z hz => (dkr_h (writeD d cell text).1 z hz).1) (fun z hz => (strs_h _ z hz).1) (fun z hz => (wts_h _ z hz).1)
theorem sync_run (K : Nat) (d : Dk) (hd : DkB d)
    (hj : mem j = .row 33 (dRw j1 j2 d)) (h1 : mem j1 = .row 9 (d.cells.map vS)) (h2 : mem j2 = .row 110 (d.waits.flatMap cWt)) (hK : mem K = .free) :
    CallM Tryz.prog 101 [.ptr j 0] mem fun y m => y = .tup [] ∧ m = upd (upd (upd (upd (upd mem j1 .dead) j2 .dead) K (.row 110 ((syncD d).waits.flatMap cWt))) j1 (.row 9 ((syncD d).cells.map vS))) j (.row 33 (dRw j1 K (syncD d))) :=
  CallM.frame3 (a := j) (b := j1) (c := j2) (b' := j1) (c' := K) (syncS_any d hd) (.inl rfl) hj h1 h2 (fun e => by rw [e, h1] at hj; cases hj) (fun e => by rw [e, h2] at hj; cases hj) (fun e => by rw [e, h2] at h1; cases h1)
    (renC_strs _) (renC_wts _) (renC_strs _) (renC_wts _) (Or.inl (And.intro (Or.inr rfl) rfl)) (.inr hK) (fun e => by rw [← e, h1] at hK; cases hK)
    (fun x hx => by rw [List.mem_singleton.1 hx]; exact ⟨.inr (.inl ⟨_, _, rfl⟩), (by decide : (0 : Nat) < 3)⟩) (dkr_h d) (strs_h _) (wts_h _) (fun z hz => by cases hz) (fun z hz => (dkr_h (syncD d) z hz).1) (fun z hz => (strs_h _ z hz).1) (fun z hz => (wts_h _ z hz).1)
end Go.Proofs.YtknciobaifdafaaGreatDoor.T
