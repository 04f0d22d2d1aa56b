import Derived.Test.YtepihebkdnmppaaxAiAiPlain
namespace Go.Proofs.Ytepihebkdnmppaa.Pure
open Go.RowKit Go.Proofs.Ytepihebkdnmppaa.Ai Go.Proofs.YtepihebkdnmppaaV.PrintWords Go.Proofs.YtepihebkdnmppaaV.PrintLast Go.Proofs.YtepihebkdnmppaaV.PrintMore
set_option linter.unusedVariables false
set_option linter.unusedSimpArgs false

theorem cells_any {c : List ByteArray} : c.any impl_DiskOk.C.p = false ↔ ∀ x ∈ c, x.size ≤ 1200 := by
  rw [List.any_eq_false]
  constructor
  · intro h x hx
    have := h x hx
    simp [impl_DiskOk.C.p] at this
    omega
  · intro h x hx
    have := h x hx
    simp [impl_DiskOk.C.p]
    omega
theorem left_l0 (left : Nat) (hleft : left ≤ 10) (n : Nat) : ∀ (j : Nat) (c : List ByteArray) (w : List S70) (r : Int), left - j = n → j ≤ left → c.length = 42 → w.length ≤ 100 → -1 ≤ r → w.any impl_DiskOk.W.p = false → c.any impl_DiskOk.C.p = false → Tot (· = true) (fun k => laws_FnDiskLeft.l0 k (left : Int) j c w r ((left : Int) - j)) := by
  induction n with
  | zero =>
    intro j c w r hn hj hc hw hr hv hcv
    apply Tot.succ
    obtain rfl : j = left := by omega
    have e0 : (j : Int) - j = 0 := by omega
    have hk : impl_DiskOk.ok c w r 0 = true := ok_of hc hw hr (by omega) hv hcv
    simp only [laws_FnDiskLeft.l0, if_neg (show ¬ (j : Int) < (j : Int) by omega), e0, impl_DiskWrite.f, impl_DiskSync.f, if_pos hk, Option.bind_some]
    have e1 : writeD c w r 0 3 (⟨#[108, 97, 116, 101]⟩ : ByteArray) = (c, w, r, 0, true) := by
      unfold writeD
      rw [if_pos (show ((0 : Int) == 0) = true by decide)]
    have e2 : syncD c w r 0 = (c, w, r, 0) := by
      unfold syncD
      rw [if_pos (show ((0 : Int) == 0) = true by decide)]
    rw [e1, e2]
    simp only [if_true]
    refine Tot.bind (jtDisk_same c w r 0 (by omega) (by omega)) ?_
    rintro _ rfl
    simp only [if_true]
    refine Tot.bind (jtDisk_same c w r 0 (by omega) (by omega)) ?_
    rintro _ rfl
    exact Tot.ret rfl
  | succ n ih =>
    intro j c w r hn hj hc hw hr hv hcv
    apply Tot.succ
    have hk : impl_DiskOk.ok c w r ((left : Int) - j) = true := ok_of hc hw hr (by omega) hv hcv
    simp only [laws_FnDiskLeft.l0, if_pos (show (j : Int) < (left : Int) by omega), impl_DiskSync.f, if_pos hk, Option.bind_some]
    have e2 : syncD c w r ((left : Int) - j) = (applyW c w, [], r, (left : Int) - (j + 1 : Nat)) := by
      unfold syncD
      have h1 : (((left : Int) - j) == 0) = false := by simp; omega
      rw [h1]
      simp only [Bool.false_eq_true, if_false]
      congr 3
      unfold lessP mx mn
      rw [w64 _ (by omega) (by omega)]
      (repeat' split) <;> omega
    rw [e2]
    have e3 : wrap64 (wrap64 ((left : Int) - j) - 1) = (left : Int) - (j + 1 : Nat) := by
      rw [w64 ((left : Int) - j) (by omega) (by omega), w64 _ (by omega) (by omega)]; omega
    simp only [e3, if_true, List.length_nil, if_neg (show ¬ ((0 : Nat) : Int) > 0 by omega), wrap_succ j (by omega)]
    exact ih (j + 1) _ _ _ (by omega) (by omega) (by rw [applyW_length]; exact hc) (by simp) hr rfl (cells_any.2 (applyW_all (cells_any.1 hcv) hv))
theorem FnDiskLeft : laws_FnDiskLeft.Pure := by
  intro code _ _ hb
  suffices h : Tot (· = true) (fun k => laws_FnDiskLeft.f k code) by
    obtain ⟨k, r, hk, rfl⟩ := h.it
    exact ⟨k, hk⟩
  unfold laws_FnDiskLeft.f
  by_cases h0 : (code.length : Int) > 1048576
  · simp only [if_pos h0]; exact Tot.ret rfl
  simp only [if_neg h0]
  unfold spec_DrawDiskSet.f
  obtain ⟨s, e, hs⟩ := open_eq code hb
  rw [e]
  simp only [Option.bind_some, Option.bind_assoc]
  refine Tot.bind (anyDisk_tot hs (P := 300) (by omega) (by omega) (by omega)) ?_
  rintro ⟨c, w, r, l, p⟩ ⟨h1, h2, h3, h4, h5⟩
  simp only at h1 h2 h3 h4 h5 ⊢
  refine Tot.bind (pick_tot (p := p) hs h5.1 (by omega) (by omega)) ?_
  rintro ⟨room, p1⟩ ⟨hroom, rfl⟩
  refine Tot.bind (pick_tot (p := p + 1) hs (by omega) (by omega) (by omega)) ?_
  rintro ⟨left, p2⟩ ⟨hleft, rfl⟩
  simp only at hroom hleft ⊢
  simp only [implSet_eq, Option.bind_some, w64 (room - 2) (by omega) (by omega), w64 (left - 2) (by omega) (by omega)]
  refine Tot.bind (set_tot c w r l (room - 2) (left - 2) (by omega) (by omega)) ?_
  rintro d rfl
  generalize hd : (if impl_DiskOk.ok c w r l = true ∧ -1 ≤ room - 2 ∧ -1 ≤ left - 2 then (c, w, room - 2, left - 2) else ([], [], 0, 0)) = d
  have hdl : d.1.length < 1000000 ∧ d.2.1.length < 1000000 := by subst hd; split <;> simp <;> omega
  refine Tot.bind (jtDisk_same d.1 d.2.1 d.2.2.1 d.2.2.2 (by omega) (by omega)) ?_
  rintro _ rfl
  have hj : Tot (· = true) (fun k => laws_FnDiskLeft.j0 k (room - 2) (left - 2) true c w r l d.1 d.2.1 d.2.2.1 d.2.2.2) := by
    apply Tot.succ
    simp only [laws_FnDiskLeft.j0, if_true]
    refine Tot.bind (set_tot c w r l (room - 2) (left - 2) (by omega) (by omega)) ?_
    rintro d' rfl
    rw [hd]
    refine Tot.bind (jtDisk_same d.1 d.2.1 d.2.2.1 d.2.2.2 (by omega) (by omega)) ?_
    rintro _ rfl
    exact Tot.ret rfl
  simp only [if_true]
  refine Tot.bind (specOk_tot c w r l (by omega) (by omega)) ?_
  rintro z rfl
  cases hk : impl_DiskOk.ok c w r l with
  | false => simp only [Bool.false_eq_true, if_false]; exact hj
  | true =>
    simp only [if_true]
    by_cases c1 : room - 2 < -1
    · simp only [if_pos c1]; exact hj
    · simp only [if_neg c1]
      by_cases c2 : left - 2 < 0
      · simp only [if_pos c2]; exact hj
      · simp only [if_neg c2]
        by_cases c3 : (w.length : Int) > 50
        · rw [decide_eq_true c3]; exact hj
        · rw [decide_eq_false c3]
          apply Tot.succ
          simp only [laws_FnDiskLeft.j0, Bool.false_eq_true, if_false]
          rw [if_pos (by simp only [hk, true_and]; omega)] at hd
          subst hd
          obtain ⟨n, hn⟩ := Int.eq_ofNat_of_zero_le (show 0 ≤ left - 2 by omega)
          obtain ⟨f1, f2, f3, f4, f5, f6⟩ := ok_facts hk
          rw [hn]
          have := left_l0 n (by omega) _ 0 c w (room - 2) rfl (by omega) f1 f2 (by omega) f5 f6
          simpa using this

end Go.Proofs.Ytepihebkdnmppaa.Pure
