import Derived.Test.YtepihebkdnmppaaxAkAkPlain
namespace Go.Proofs.Ytepihebkdnmppaa.Pure
open Go.RowKit Go.Proofs.Ytepihebkdnmppaa.Ak Go.Proofs.YtepihebkdnmppaaV.PrintWords Go.Proofs.YtepihebkdnmppaaV.PrintLast Go.Proofs.YtepihebkdnmppaaV.PrintMore
set_option linter.unusedVariables false
set_option linter.unusedSimpArgs false

theorem cells_any {c : List ByteArray} : c.any impl_DiskOk.C.p = false ↔ ∀ x ∈ c, x.size ≤ 1200 := by
  rw [List.any_eq_false]
  constructor
  · intro h x hx
    have := h x hx
    simp [impl_DiskOk.C.p] at this
    omega
  · intro h x hx
    have := h x hx
    simp [impl_DiskOk.C.p]
    omega
theorem sync_l0 {c : List ByteArray} {w : List S70} {r l r' l' r'' l'' : Int} (h1 : impl_DiskOk.ok c w r l = true) (h2 : impl_DiskOk.ok (applyW c w) [] r' l' = true) (n : Nat) : ∀ i : Nat, 42 - i = n → Tot (· = true) (fun k => laws_FnDiskSync.l0 k i c w r l (applyW c w) [] r'' l'' (applyW c w) [] r' l') := by
  obtain ⟨f1, f2, f3, f4, f5, f6⟩ := ok_facts h1
  induction n with
  | zero =>
    intro i hn
    apply Tot.succ
    simp only [laws_FnDiskSync.l0, if_neg (show ¬ (i : Int) < 42 by omega)]
    exact Tot.ret rfl
  | succ n ih =>
    intro i hn
    apply Tot.succ
    have e1 : readD c w i = (applyW c w).getD i ByteArray.empty := readD_apply c w i (by omega) f5
    have e2 : readD (applyW c w) [] i = (applyW c w).getD i ByteArray.empty := rfl
    have e3 : rdOf ByteArray.empty (applyW c w) (i : Int) = (applyW c w).getD i ByteArray.empty := rfl
    simp only [laws_FnDiskSync.l0, if_pos (show (i : Int) < 42 by omega), read_eq h1 i (by omega), read_eq h2 i (by omega), Option.bind_some, e1, e2, e3, if_true, if_pos (show (0 : Int) ≤ (i : Int) by omega), applyW_length, if_pos (show (i : Int) < (c.length : Int) by omega), wrap_succ i (by omega)]
    exact ih (i + 1) (by omega)
theorem FnDiskSync : laws_FnDiskSync.Pure := by
  intro code more _ _ hb _ _ hb2
  suffices h : Tot (· = true) (fun k => laws_FnDiskSync.f k code more) by
    obtain ⟨k, r, hk, rfl⟩ := h.it
    exact ⟨k, hk⟩
  have hj0 : Tot (· = true) (fun k => laws_FnDiskSync.j0 k code more true) := by
    apply Tot.succ
    simp only [laws_FnDiskSync.j0, if_true]
    exact Tot.ret rfl
  unfold laws_FnDiskSync.f
  by_cases h0 : (code.length : Int) > 1048576
  · simp only [if_pos h0]; exact hj0
  simp only [if_neg h0]
  by_cases h1 : (more.length : Int) > 1048576
  · rw [decide_eq_true h1]; exact hj0
  rw [decide_eq_false h1]
  apply Tot.succ
  simp only [laws_FnDiskSync.j0, Bool.false_eq_true, if_false]
  refine Tot.bind (drawSync_tot hb) ?_
  rintro ⟨c, w, r, l⟩ ⟨h1, h2, h3, h4⟩
  simp only at h1 h2 h3 h4 ⊢
  simp only [implSync_eq, Option.bind_some]
  have hspec := specSync_tot c w r l (by omega) (by omega) (by omega)
  refine Tot.bind hspec ?_
  rintro d rfl
  generalize hd : (if impl_DiskOk.ok c w r l = true then syncD c w r l else ([], [], 0, 0)) = d at hspec
  have hdl : d.1.length ≤ 200 ∧ d.2.1.length ≤ 200 := by rw [← hd]; exact syncD_len c w r l _ (by omega) (by omega)
  have hsame := jtDisk_same d.1 d.2.1 d.2.2.1 d.2.2.2 (by omega) (by omega)
  refine Tot.bind hsame ?_
  rintro _ rfl
  simp only [if_true, impl_DiskOk.f, Option.bind_some]
  have hok := specOk_tot c w r l (by omega) (by omega)
  refine Tot.bind hok ?_
  rintro _ rfl
  simp only [bne_self_eq_false, Bool.false_eq_true, if_false]
  refine Tot.bind hok ?_
  rintro _ rfl
  have hj1 : Tot (· = true) (fun k => laws_FnDiskSync.j1 k more true c w r l d.1 d.2.1 d.2.2.1 d.2.2.2) := by
    apply Tot.succ
    simp only [laws_FnDiskSync.j1, if_true]
    refine Tot.bind hspec ?_
    rintro _ rfl
    refine Tot.bind hsame ?_
    rintro _ rfl
    simp only [if_true, impl_DiskOk.f, Option.bind_some]
    refine Tot.bind hok ?_
    rintro _ rfl
    exact Tot.ret (by simp)
  cases hk : impl_DiskOk.ok c w r l with
  | false => simp only [Bool.false_eq_true, if_false]; exact hj1
  | true =>
    simp only [if_true]
    by_cases hl : l = 0
    · rw [show (l == 0) = true by simpa using hl]; exact hj1
    · rw [show (l == 0) = false by simpa using hl]
      obtain ⟨f1, f2, f3, f4, f5, f6⟩ := ok_facts hk
      rw [if_pos hk] at hd
      unfold syncD at hd
      rw [if_neg (by simpa using hl)] at hd
      subst hd
      have k1 : impl_DiskOk.ok (applyW c w) [] r (lessP l) = true := ok_of (by rw [applyW_length]; exact f1) (by simp) f3 (lessP_ge f4 (by omega)) rfl (cells_any.2 (applyW_all (cells_any.1 f6) f5))
      have k2 : impl_DiskOk.ok (applyW c w) [] (-1) (-1) = true := ok_of (by rw [applyW_length]; exact f1) (by simp) (by omega) (by omega) rfl (cells_any.2 (applyW_all (cells_any.1 f6) f5))
      have hj2 : ∀ m t b : Int, 0 ≤ m → Tot (· = true) (fun k => laws_FnDiskSync.j2 k m t b c w r l (applyW c w) [] r (lessP l)) := by
        intro m t b hm
        apply Tot.succ
        simp only [laws_FnDiskSync.j2]
        refine Tot.bind (crash_empty k1 hm) ?_
        rintro _ rfl
        exact sync_l0 hk k2 _ 0 rfl
      apply Tot.succ
      simp only [laws_FnDiskSync.j1, Bool.false_eq_true, if_false]
      refine Tot.bind (drawCrash_tot hb2) ?_
      rintro m _
      by_cases hm : m.2.2.2.2.1 < 0
      · simp only [if_pos hm]; exact hj2 _ _ _ (by omega)
      · simp only [if_neg hm]; exact hj2 _ _ _ (by omega)

end Go.Proofs.Ytepihebkdnmppaa.Pure
