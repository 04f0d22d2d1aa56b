import Derived.Test.YtepihebkdnmppaaxAhAhPlain
namespace Go.Proofs.Ytepihebkdnmppaa.Pure
open Go.RowKit Go.Proofs.Ytepihebkdnmppaa.Ah Go.Proofs.YtepihebkdnmppaaV.PrintWords Go.Proofs.YtepihebkdnmppaaV.PrintLast Go.Proofs.YtepihebkdnmppaaV.PrintMore
set_option linter.unusedVariables false
set_option linter.unusedSimpArgs false

theorem apply_swap (c : List ByteArray) (w : List S70) (a b : Int) (s t : ByteArray) (ha : 0 ≤ a) (hb : 0 ≤ b) (h : a ≠ b) : applyW c (w ++ [⟨a, s⟩] ++ [⟨b, t⟩]) = applyW c (w ++ [⟨b, t⟩] ++ [⟨a, s⟩]) := by
  unfold applyW
  simp only [List.foldl_append, List.foldl_cons, List.foldl_nil]
  exact List.set_comm _ _ (by omega)
theorem jtTexts_same (a : List ByteArray) (ha : a.length < 1000000000) : Tot (· = true) (fun k => laws_jtTexts.f k a a) := by
  unfold laws_jtTexts.f
  simp only [if_true]
  exact texts_l0 a ha _ 0 rfl
theorem two_j2 {c : List ByteArray} {w : List S70} {a b : Int} {s t : ByteArray} {r l : Int} (c0 : List ByteArray) (w0 : List S70) (hne : a ≠ b) (h1 : impl_DiskOk.ok c (w ++ [⟨a, s⟩] ++ [⟨b, t⟩]) (-1) (-1) = true) (h2 : impl_DiskOk.ok c (w ++ [⟨b, t⟩] ++ [⟨a, s⟩]) (-1) (-1) = true) (ha : 0 ≤ a) (hb : 0 ≤ b) :
    Tot (· = true) (fun k => laws_FnDiskTwo.j2 k true true false c0 w0 r l c (w ++ [⟨a, s⟩] ++ [⟨b, t⟩]) (-1) (-1) c (w ++ [⟨b, t⟩] ++ [⟨a, s⟩]) (-1) (-1)) := by
  apply Tot.succ
  have hc := (ok_facts h1).1
  simp only [laws_FnDiskTwo.j2, Bool.false_eq_true, if_false, impl_DiskSync.f, if_pos h1, if_pos h2, Option.bind_some]
  unfold syncD
  simp only [if_neg (show ¬ ((-1 : Int) == 0) = true by decide)]
  rw [apply_swap c w a b s t ha hb hne]
  refine Tot.bind (jtTexts_same _ (by rw [applyW_length]; omega)) ?_
  rintro _ rfl
  exact Tot.ret rfl
theorem FnDiskTwo : laws_FnDiskTwo.Pure := by
  intro code more _ _ hb _ _ hb2
  suffices h : Tot (· = true) (fun k => laws_FnDiskTwo.f k code more) by
    obtain ⟨k, r, hk, rfl⟩ := h.it
    exact ⟨k, hk⟩
  have hj0 : Tot (· = true) (fun k => laws_FnDiskTwo.j0 k code more true) := by
    apply Tot.succ
    simp only [laws_FnDiskTwo.j0, if_true]
    exact Tot.ret rfl
  unfold laws_FnDiskTwo.f
  by_cases h0 : (code.length : Int) > 1048576
  · simp only [if_pos h0]; exact hj0
  simp only [if_neg h0]
  by_cases h1 : (more.length : Int) > 1048576
  · rw [decide_eq_true h1]; exact hj0
  rw [decide_eq_false h1]
  apply Tot.succ
  simp only [laws_FnDiskTwo.j0, Bool.false_eq_true, if_false]
  refine Tot.bind (drawWrite_tot hb) ?_
  rintro ⟨c, w, r, l, a, s⟩ ⟨h1, h2, h3, h4⟩
  refine Tot.bind (drawWrite_tot hb2) ?_
  rintro ⟨_, _, _, _, b, t⟩ _
  simp only at h1 h2 h3 h4 ⊢
  simp only [implWrite_eq, Option.bind_some]
  refine Tot.bind (specWrite_tot c w r l a s (by omega) (by omega) (by omega) (by omega)) ?_
  rintro d rfl
  simp only [bne_self_eq_false, Bool.false_eq_true, if_false]
  generalize hd : (if impl_DiskOk.ok c w r l = true then writeD c w r l a s else ([], [], 0, 0, false)) = d
  have hdl : d.1.length ≤ 200 ∧ d.2.1.length ≤ 200 := by rw [← hd]; exact writeD_len c w r l a s _ (by omega) (by omega)
  have hsame := jtDisk_same d.1 d.2.1 d.2.2.1 d.2.2.2.1 (by omega) (by omega)
  refine Tot.bind hsame ?_
  rintro _ rfl
  simp only [if_true]
  have hj1 : ∀ x12, Tot (· = true) (fun k => laws_FnDiskTwo.j1 k a s b t x12 x12 true c w r l d.1 d.2.1 d.2.2.1 d.2.2.2.1 d.1 d.2.1 d.2.2.1 d.2.2.2.1) := by
    intro x12
    apply Tot.succ
    simp only [laws_FnDiskTwo.j1, if_true, beq_self_eq_true]
    refine Tot.bind hsame ?_
    rintro _ rfl
    exact Tot.ret rfl
  by_cases c1 : d.2.2.2.2 = true
  · simp only [if_pos c1]
    by_cases c2 : a = b
    · simp only [if_pos c2]; subst c2; exact hj1 _
    · simp only [if_neg c2]
      by_cases c3 : l ≥ 0
      · simp only [if_pos c3]; exact hj1 _
      · simp only [if_neg c3]
        by_cases c4 : r ≥ 0
        · rw [decide_eq_true c4]; exact hj1 _
        · rw [decide_eq_false c4]
          cases hk : impl_DiskOk.ok c w r l with
          | false =>
            rw [hk] at hd
            simp only [Bool.false_eq_true, if_false] at hd
            subst hd
            simp at c1
          | true =>
            obtain ⟨f1, f2, f3, f4, f5, f6⟩ := ok_facts hk
            obtain rfl : r = -1 := by omega
            obtain rfl : l = -1 := by omega
            rw [if_pos hk, writeD_go] at hd
            cases hw1 : writeOk w (-1) (-1) a s with
            | false =>
              rw [hw1] at hd
              simp only [Bool.false_eq_true, if_false] at hd
              subst hd
              simp at c1
            | true =>
              rw [hw1] at hd
              simp only [if_true] at hd
              subst hd
              obtain ⟨o1, o2, o3⟩ := ok_snoc hk hw1
              apply Tot.succ
              simp only [laws_FnDiskTwo.j1, Bool.false_eq_true, if_false, impl_DiskWrite.f, if_pos o1, if_pos hk, writeD_go, Option.bind_some]
              have pa : 0 ≤ a := by
                have := wait_at (w := [⟨a, s⟩]) (by simpa using o3) 0 (by simp)
                exact this.1
              cases hwb : impl_DiskOk.W.p ⟨b, t⟩ with
              | true =>
                have e1 : writeOk (w ++ [⟨a, s⟩]) (-1) (-1) b t = false := by rw [writeOk_go, hwb]; rfl
                have e2 : writeOk w (-1) (-1) b t = false := by rw [writeOk_go, hwb]; rfl
                simp only [e1, e2, Bool.false_eq_true, if_false, if_pos hk, writeD_go, Option.bind_some]
                apply Tot.succ
                simp only [laws_FnDiskTwo.j2, if_true, beq_self_eq_true]
                exact Tot.ret rfl
              | false =>
                have pb : 0 ≤ b := by
                  have := wait_at (w := [⟨b, t⟩]) (by simpa using hwb) 0 (by simp)
                  exact this.1
                have e2 : writeOk w (-1) (-1) b t = true := by
                  have : ((w.length : Int) == 100) = false := by simp; omega
                  rw [writeOk_go, hwb, this]; rfl
                obtain ⟨q1, q2, q3⟩ := ok_snoc hk e2
                by_cases hl : w.length = 99
                · have e1 : writeOk (w ++ [⟨a, s⟩]) (-1) (-1) b t = false := by
                    have : (((w ++ [(⟨a, s⟩ : S70)]).length : Int) == 100) = true := by simp; omega
                    rw [writeOk_go, hwb, this]; rfl
                  simp only [e1, e2, Bool.false_eq_true, if_false, if_true, if_pos q1, writeD_go, Option.bind_some]
                  apply Tot.succ
                  simp only [laws_FnDiskTwo.j2, if_true]
                  rw [if_neg (by decide)]
                  exact Tot.ret (by simp; omega)
                · have e1 : writeOk (w ++ [⟨a, s⟩]) (-1) (-1) b t = true := by
                    have : (((w ++ [(⟨a, s⟩ : S70)]).length : Int) == 100) = false := by simp; omega
                    rw [writeOk_go, hwb, this]; rfl
                  have e3 : writeOk (w ++ [⟨b, t⟩]) (-1) (-1) a s = true := by
                    have : (((w ++ [(⟨b, t⟩ : S70)]).length : Int) == 100) = false := by simp; omega
                    rw [writeOk_go, o3, this]; rfl
                  simp only [e1, e2, if_true, if_pos q1, writeD_go, e3, Option.bind_some, Bool.not_true]
                  exact two_j2 c w c2 (ok_snoc o1 e1).1 (ok_snoc q1 e3).1 pa pb
  · simp only [if_neg c1]; exact hj1 _

end Go.Proofs.Ytepihebkdnmppaa.Pure
