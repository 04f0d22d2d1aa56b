import Derived.Test.YtepihebkdnmppaaCrAPlain
namespace Go.Proofs.Ytepihebkdnmppaa.Pure
open Go.RowKit Go.Proofs.Ytepihebkdnmppaa.A Go.Proofs.YtepihebkdnmppaaV.PrintWords Go.Proofs.YtepihebkdnmppaaV.PrintLast Go.Proofs.YtepihebkdnmppaaV.PrintMore
set_option linter.unusedVariables false
set_option linter.unusedSimpArgs false

theorem ok_facts {c : List ByteArray} {w : List S70} {r l : Int} (h : impl_DiskOk.ok c w r l = true) : c.length = 42 ∧ w.length ≤ 100 ∧ -1 ≤ r ∧ -1 ≤ l ∧ w.any impl_DiskOk.W.p = false ∧ c.any impl_DiskOk.C.p = false := by
  unfold impl_DiskOk.ok impl_DiskOk.C.any impl_DiskOk.W.any at h
  simp only [Bool.and_eq_true, decide_eq_true_eq, Bool.not_eq_true'] at h
  obtain ⟨h1, h2, h3, h4, h5, h6⟩ := h
  exact ⟨by omega, by omega, h5, h6, h4, h2⟩
theorem ok_of {c : List ByteArray} {w : List S70} {r l : Int} (h1 : c.length = 42) (h2 : w.length ≤ 100) (h3 : -1 ≤ r) (h4 : -1 ≤ l) (h5 : w.any impl_DiskOk.W.p = false) (h6 : c.any impl_DiskOk.C.p = false) : impl_DiskOk.ok c w r l = true := by
  unfold impl_DiskOk.ok impl_DiskOk.C.any impl_DiskOk.W.any
  simp only [Bool.and_eq_true, decide_eq_true_eq, Bool.not_eq_true']
  exact ⟨by omega, h6, by omega, h5, by omega, by omega⟩
/-- The loop of writes: j of them are done. -/
theorem room_l0 (c0 : List ByteArray) (w0 : List S70) (r0 l0 : Int) (room : Nat) (hroom : room ≤ 3) (c : List ByteArray) (hc : c.length = 42) (hcv : c.any impl_DiskOk.C.p = false) (hw0 : w0.length ≤ 50) (n : Nat) :
    ∀ (j : Nat) (w : List S70), room - j = n → j ≤ room → w.length = w0.length + j → w.any impl_DiskOk.W.p = false → Tot (· = true) (fun k => laws_FnDiskRoom.l0 k (room : Int) j c0 w0 r0 l0 c w ((room : Int) - j) (-1)) := by
  induction n with
  | zero =>
    intro j w hn hj hw hv
    apply Tot.succ
    obtain rfl : j = room := by omega
    have e0 : (j : Int) - j = 0 := by omega
    have hk : impl_DiskOk.ok c w 0 (-1) = true := ok_of hc (by omega) (by omega) (by omega) hv hcv
    simp only [laws_FnDiskRoom.l0, if_neg (show ¬ (j : Int) < (j : Int) by omega), e0, impl_DiskWrite.f, if_pos hk, Option.bind_some]
    have e1 : writeD c w 0 (-1) 5 (⟨#[109, 111, 114, 101]⟩ : ByteArray) = (c, w, 0, -1, false) := by
      unfold writeD
      rw [if_neg (show ¬ ((-1 : Int) == 0) = true by decide), if_neg (by unfold writeOk; simp)]
    rw [e1]
    simp only [Bool.false_eq_true, if_false]
    refine Tot.bind (jtDisk_same c w 0 (-1) (by omega) (by omega)) ?_
    rintro _ rfl
    simp only [if_true]
    refine Tot.ret ?_
    rw [w64 _ (by omega) (by omega), hw]
    simp
  | succ n ih =>
    intro j w hn hj hw hv
    apply Tot.succ
    have hk : impl_DiskOk.ok c w ((room : Int) - j) (-1) = true := ok_of hc (by omega) (by omega) (by omega) hv hcv
    simp only [laws_FnDiskRoom.l0, if_pos (show (j : Int) < (room : Int) by omega), impl_DiskWrite.f, if_pos hk, Option.bind_some]
    have e1 : writeD c w ((room : Int) - j) (-1) 5 (⟨#[116, 101, 120, 116]⟩ : ByteArray) = (c, w ++ [⟨5, ⟨#[116, 101, 120, 116]⟩⟩], lessP ((room : Int) - j), lessP (-1), true) := by
      unfold writeD
      have h1 : (((room : Int) - j) == 0) = false := by simp; omega
      have h2 : ((w.length : Int) == 100) = false := by simp; omega
      rw [if_neg (show ¬ ((-1 : Int) == 0) = true by decide), if_pos (by unfold writeOk; rw [h1, h2]; decide)]
    rw [e1]
    have e2 : lessP ((room : Int) - j) = (room : Int) - (j + 1 : Nat) := by
      unfold lessP mx mn
      rw [w64 _ (by omega) (by omega)]
      (repeat' split) <;> omega
    simp only [if_true, wrap_succ j (by omega), lessP_neg, e2]
    exact ih (j + 1) _ (by omega) (by omega) (by simp; omega) (any_append_false hv (by decide))
theorem set_tot (c : List ByteArray) (w : List S70) (r l a b : Int) (hc : c.length < 1000000) (hw : w.length < 1000000) : Tot (· = if impl_DiskOk.ok c w r l = true ∧ -1 ≤ a ∧ -1 ≤ b then (c, w, a, b) else ([], [], 0, 0)) (fun k => spec_DiskSet.f k c w r l a b) := by
  unfold spec_DiskSet.f
  refine Tot.bind (ok_tot c w r l (by omega) (by omega)) ?_
  rintro z rfl
  cases hk : impl_DiskOk.ok c w r l with
  | false => simp only [Bool.false_eq_true, if_false, false_and]; exact Tot.ret rfl
  | true =>
    simp only [if_true, true_and]
    by_cases h1 : a < -1
    · simp only [if_pos h1, if_neg (show ¬ (-1 ≤ a ∧ -1 ≤ b) by omega)]; exact Tot.ret rfl
    · by_cases h2 : b < -1
      · simp only [if_neg h1, if_pos h2, if_neg (show ¬ (-1 ≤ a ∧ -1 ≤ b) by omega)]; exact Tot.ret rfl
      · simp only [if_neg h1, if_neg h2, if_pos (show (-1 ≤ a ∧ -1 ≤ b) by omega), copy_eq c w r l (by omega) (by omega), Option.bind_some]; exact Tot.ret rfl
theorem implSet_eq (c : List ByteArray) (w : List S70) (r l a b : Int) : impl_DiskSet.f c w r l a b = some (if impl_DiskOk.ok c w r l = true ∧ -1 ≤ a ∧ -1 ≤ b then (c, w, a, b) else ([], [], 0, 0)) := by
  unfold impl_DiskSet.f impl_DiskOk.f
  cases hk : impl_DiskOk.ok c w r l with
  | false => simp
  | true =>
    have hl := diskOk_lengths hk
    simp only [Option.bind_some, if_true, true_and]
    by_cases h1 : a < -1
    · rw [if_pos h1, if_neg (show ¬ (-1 ≤ a ∧ -1 ≤ b) by omega)]
    · by_cases h2 : b < -1
      · rw [if_neg h1, if_pos h2, if_neg (show ¬ (-1 ≤ a ∧ -1 ≤ b) by omega)]
      · rw [if_neg h1, if_neg h2, if_pos (show (-1 ≤ a ∧ -1 ≤ b) by omega)]
        unfold impl_Disk_copyOf.f impl_clone_string.f impl_Wait.f
        rw [if_pos (by omega), if_pos (by omega)]; rfl
theorem FnDiskRoom : laws_FnDiskRoom.Pure := by
  intro code _ _ hb
  suffices h : Tot (· = true) (fun k => laws_FnDiskRoom.f k code) by
    obtain ⟨k, r, hk, rfl⟩ := h.it
    exact ⟨k, hk⟩
  unfold laws_FnDiskRoom.f
  by_cases h0 : (code.length : Int) > 1048576
  · simp only [if_pos h0]; exact Tot.ret rfl
  simp only [if_neg h0]
  unfold spec_DrawDiskSet.f
  obtain ⟨s, e, hs⟩ := open_eq code hb
  rw [e]
  simp only [Option.bind_some, Option.bind_assoc]
  refine Tot.bind (anyDisk_tot hs (P := 300) (by omega) (by omega) (by omega)) ?_
  rintro ⟨c, w, r, l, p⟩ ⟨h1, h2, h3, h4, h5⟩
  simp only at h1 h2 h3 h4 h5 ⊢
  refine Tot.bind (pick_tot (p := p) hs h5.1 (by omega) (by omega)) ?_
  rintro ⟨room, p1⟩ ⟨hroom, rfl⟩
  refine Tot.bind (pick_tot (p := p + 1) hs (by omega) (by omega) (by omega)) ?_
  rintro ⟨left, p2⟩ ⟨hleft, rfl⟩
  simp only at hroom hleft ⊢
  simp only [implSet_eq, Option.bind_some, w64 (room - 2) (by omega) (by omega), w64 (left - 2) (by omega) (by omega)]
  refine Tot.bind (set_tot c w r l (room - 2) (-1) (by omega) (by omega)) ?_
  rintro d rfl
  generalize hd : (if impl_DiskOk.ok c w r l = true ∧ -1 ≤ room - 2 ∧ (-1 : Int) ≤ -1 then (c, w, room - 2, (-1 : Int)) else ([], [], 0, 0)) = d
  have hdl : d.1.length < 1000000 ∧ d.2.1.length < 1000000 := by subst hd; split <;> simp <;> omega
  refine Tot.bind (jtDisk_same d.1 d.2.1 d.2.2.1 d.2.2.2 (by omega) (by omega)) ?_
  rintro _ rfl
  have hj : Tot (· = true) (fun k => laws_FnDiskRoom.j0 k (room - 2) true c w r l d.1 d.2.1 d.2.2.1 d.2.2.2) := by
    apply Tot.succ
    simp only [laws_FnDiskRoom.j0, if_true]
    refine Tot.bind (set_tot c w r l (room - 2) (-1) (by omega) (by omega)) ?_
    rintro d' rfl
    rw [hd]
    refine Tot.bind (jtDisk_same d.1 d.2.1 d.2.2.1 d.2.2.2 (by omega) (by omega)) ?_
    rintro _ rfl
    exact Tot.ret rfl
  simp only [if_true]
  refine Tot.bind (specOk_tot c w r l (by omega) (by omega)) ?_
  rintro z rfl
  cases hk : impl_DiskOk.ok c w r l with
  | false => simp only [Bool.false_eq_true, if_false]; exact hj
  | true =>
    simp only [if_true]
    by_cases c1 : room - 2 < 0
    · simp only [if_pos c1]; exact hj
    · simp only [if_neg c1]
      by_cases c2 : left - 2 < -5
      · simp only [if_pos c2]; exact hj
      · simp only [if_neg c2]
        by_cases c3 : (w.length : Int) > 50
        · rw [decide_eq_true c3]; exact hj
        · rw [decide_eq_false c3]
          apply Tot.succ
          simp only [laws_FnDiskRoom.j0, Bool.false_eq_true, if_false]
          rw [if_pos (by simp only [hk, true_and]; omega)] at hd
          subst hd
          obtain ⟨n, hn⟩ := Int.eq_ofNat_of_zero_le (show 0 ≤ room - 2 by omega)
          obtain ⟨f1, f2, f3, f4, f5, f6⟩ := ok_facts hk
          rw [hn]
          have := room_l0 c w r l n (by omega) c f1 f6 (by omega) _ 0 w rfl (by omega) (by omega) f5
          simpa using this

end Go.Proofs.Ytepihebkdnmppaa.Pure
