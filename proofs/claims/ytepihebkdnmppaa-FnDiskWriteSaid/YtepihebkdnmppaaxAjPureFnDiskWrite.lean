import Derived.Test.YtepihebkdnmppaaxAjAjPlain
namespace Go.Proofs.Ytepihebkdnmppaa.Pure
open Go.RowKit Go.Proofs.Ytepihebkdnmppaa.Aj Go.Proofs.YtepihebkdnmppaaV.PrintWords Go.Proofs.YtepihebkdnmppaaV.PrintLast Go.Proofs.YtepihebkdnmppaaV.PrintMore
set_option linter.unusedVariables false
set_option linter.unusedSimpArgs false

theorem jtTexts_same (a : List ByteArray) (ha : a.length < 1000000000) : Tot (· = true) (fun k => laws_jtTexts.f k a a) := by
  unfold laws_jtTexts.f
  simp only [if_true]
  exact texts_l0 a ha _ 0 rfl
theorem write_l0 {c : List ByteArray} {w : List S70} {r l r' l' at_ : Int} {t : ByteArray} (h1 : impl_DiskOk.ok c w r l = true) (h2 : impl_DiskOk.ok c (w ++ [⟨at_, t⟩]) r' l' = true) (n : Nat) : ∀ i : Nat, 42 - i = n → Tot (· = true) (fun k => laws_FnDiskWrite.l0 k at_ t i c w r l c (w ++ [⟨at_, t⟩]) r' l') := by
  induction n with
  | zero =>
    intro i hn
    apply Tot.succ
    have hc := (ok_facts h1).1
    simp only [laws_FnDiskWrite.l0, if_neg (show ¬ (i : Int) < 42 by omega), impl_DiskOk.f, h2, Option.bind_some, if_true]
    refine Tot.bind (jtTexts_same c (by omega)) ?_
    rintro _ rfl
    exact Tot.ret rfl
  | succ n ih =>
    intro i hn
    apply Tot.succ
    simp only [laws_FnDiskWrite.l0, if_pos (show (i : Int) < 42 by omega), read_eq h1 i (by omega), read_eq h2 i (by omega), Option.bind_some, readD_snoc, wrap_succ i (by omega)]
    by_cases h : (i : Int) = at_
    · simp only [if_pos h, if_pos h.symm, if_true]
      exact ih (i + 1) (by omega)
    · simp only [if_neg h, if_neg (fun e => h (Eq.symm e)), if_true]
      exact ih (i + 1) (by omega)
theorem FnDiskWrite : laws_FnDiskWrite.Pure := by
  intro code _ _ hb
  suffices h : Tot (· = true) (fun k => laws_FnDiskWrite.f k code) by
    obtain ⟨k, r, hk, rfl⟩ := h.it
    exact ⟨k, hk⟩
  unfold laws_FnDiskWrite.f
  by_cases h0 : (code.length : Int) > 1048576
  · simp only [if_pos h0]; exact Tot.ret rfl
  simp only [if_neg h0]
  refine Tot.bind (drawWrite_tot hb) ?_
  rintro ⟨c, w, r, l, a, s⟩ ⟨h1, h2, h3, h4⟩
  simp only at h1 h2 h3 h4 ⊢
  simp only [implWrite_eq, Option.bind_some]
  refine Tot.bind (specWrite_tot c w r l a s (by omega) (by omega) (by omega) (by omega)) ?_
  rintro d rfl
  simp only [bne_self_eq_false, Bool.false_eq_true, if_false]
  generalize hd : (if impl_DiskOk.ok c w r l = true then writeD c w r l a s else ([], [], 0, 0, false)) = d
  have hdl : d.1.length ≤ 200 ∧ d.2.1.length ≤ 200 := by rw [← hd]; exact writeD_len c w r l a s _ (by omega) (by omega)
  have hsame := jtDisk_same d.1 d.2.1 d.2.2.1 d.2.2.2.1 (by omega) (by omega)
  refine Tot.bind hsame ?_
  rintro _ rfl
  simp only [if_true]
  cases hone : d.2.2.2.2 with
  | false =>
    apply Tot.succ
    simp only [laws_FnDiskWrite.j0, Bool.not_false, if_true, beq_self_eq_true]
    refine Tot.bind hsame ?_
    rintro _ rfl
    exact Tot.ret rfl
  | true =>
    apply Tot.succ
    simp only [laws_FnDiskWrite.j0, Bool.not_true, Bool.false_eq_true, if_false]
    cases hk : impl_DiskOk.ok c w r l with
    | false =>
      rw [hk] at hd
      simp only [Bool.false_eq_true, if_false] at hd
      subst hd
      simp at hone
    | true =>
      obtain ⟨f1, f2, f3, f4, f5, f6⟩ := ok_facts hk
      rw [if_pos hk] at hd
      unfold writeD at hd
      by_cases hl : l = 0
      · rw [if_pos (by simpa using hl)] at hd
        subst hd
        simp only [if_pos hl]
        refine Tot.bind hsame ?_
        rintro _ rfl
        exact Tot.ret rfl
      · simp only [if_neg hl]
        rw [if_neg (by simpa using hl)] at hd
        by_cases hw : writeOk w r l a s = true
        · rw [if_pos hw] at hd
          subst hd
          have hp := writeOk_p hw
          have hlen : ¬ (w.length : Int) = 100 := by
            unfold writeOk at hw
            simp only [Bool.and_eq_true, Bool.not_eq_true', beq_eq_false_iff_ne] at hw
            exact hw.2.2.2
          exact write_l0 hk (ok_of f1 (by rw [List.length_append, List.length_singleton]; omega) (lessP_ge f3 (by omega)) (lessP_ge f4 (by omega)) (any_append_false f5 hp) f6) _ 0 rfl
        · rw [if_neg hw] at hd
          subst hd
          simp at hone

end Go.Proofs.Ytepihebkdnmppaa.Pure
