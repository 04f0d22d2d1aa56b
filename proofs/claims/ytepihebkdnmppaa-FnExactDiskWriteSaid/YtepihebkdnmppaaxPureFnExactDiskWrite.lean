import Derived.Test.YtepihebkdnmppaaxAgPlain
import Derived.Test.YtepihebkdnmppaaxAgSaysFnExactDiskWrite
namespace Go.Proofs.Ytepihebkdnmppaa.Pure
open Go.RowKit Go.Proofs.Ytepihebkdnmppaa.Ag Go.Proofs.YtepihebkdnmppaaV.PrintWords Go.Proofs.YtepihebkdnmppaaV.PrintLast Go.Proofs.YtepihebkdnmppaaV.PrintMore
set_option linter.unusedVariables false
set_option linter.unusedSimpArgs false

theorem FnExactDiskWrite : laws_FnExactDiskWrite.Pure := by
  intro c w0 r l at_ s ⟨hc, hw, hrw, hlw⟩ _ _
  have hrr : r < 9223372036854775808 := by
    simp [Lit.wf, IntKind.min, IntKind.max, IntKind.signed, IntKind.bits] at hrw; omega
  have hll : l < 9223372036854775808 := by
    simp [Lit.wf, IntKind.min, IntKind.max, IntKind.signed, IntKind.bits] at hlw; omega
  suffices h : Tot (· = true) (fun k => laws_FnExactDiskWrite.f k c w0 r l at_ s) by
    obtain ⟨k, r, hk, rfl⟩ := h.it
    exact ⟨k, hk⟩
  unfold laws_FnExactDiskWrite.f
  by_cases hs : (s.size : Int) > 1048576
  · simp only [if_pos hs]; exact Tot.ret rfl
  simp only [if_neg hs]
  refine Tot.bind (szDisk_tot c w0 r l hc hw) ?_
  rintro t ht
  by_cases h0 : t < 0
  · simp only [if_pos h0]; exact Tot.ret rfl
  simp only [if_neg h0]
  obtain ⟨hc', hw'⟩ := ht (by omega)
  have hto := toDisk_tot c w0 r l hc' hw'
  refine Tot.bind hto ?_
  rintro x rfl
  have hwl : (w0.map cv).length ≤ 1048576 := by rw [List.length_map]; exact hw'
  generalize w0.map cv = w at hto hwl ⊢
  simp only
  refine Tot.bind (specWrite_tot c w r l at_ s (by omega) (by omega) hrr hll) ?_
  rintro d hd
  have hi := implWrite_eq c w r l at_ s
  rw [← hd] at hi
  have hdl : d.1.length ≤ 1048577 ∧ d.2.1.length ≤ 1048577 := by rw [hd]; exact writeD_len c w r l at_ s _ (by omega) (by omega)
  clear hd
  refine Tot.bind hto ?_
  rintro x rfl
  simp only [hi, Option.bind_some]
  have heq := eqDisk_same d.1 d.2.1 d.2.2.1 d.2.2.2.1 (by omega) (by omega)
  refine Tot.bind heq ?_
  rintro _ rfl
  simp only [if_true, bne_self_eq_false]
  apply Tot.succ
  simp only [laws_FnExactDiskWrite.j0, Bool.false_eq_true, if_false]
  refine Tot.bind hto ?_
  rintro x rfl
  simp only
  refine Tot.bind (eqDisk_same c w r l (by omega) (by omega)) ?_
  rintro _ rfl
  simp only [if_true]
  refine Tot.bind (markDisk_tot c w r l (by omega) (by omega)) ?_
  rintro m ⟨hm, _⟩
  simp only [if_neg (show ¬ m.1 < 0 by omega)]
  refine Tot.bind heq ?_
  rintro _ rfl
  simp only [if_true, bne_self_eq_false]
  apply Tot.succ
  simp only [laws_FnExactDiskWrite.j1, Bool.false_eq_true, if_false]
  refine Tot.bind (markDisk_tot d.1 d.2.1 d.2.2.1 d.2.2.2.1 (by omega) (by omega)) ?_
  rintro n ⟨hn, hn1, hn2, hnM⟩
  have hheld := heldDisk_tot n.2.1 n.2.2 d.2.2.1 d.2.2.2.1 (by omega) (by omega) hnM
  refine Tot.bind hheld ?_
  rintro q hq
  simp only [if_neg (show ¬ q < 0 by omega), if_pos (show q = n.1 by omega)]
  refine Tot.bind hto ?_
  rintro x rfl
  simp only [hi, Option.bind_some]
  refine Tot.bind heq ?_
  rintro _ rfl
  simp only [if_true, bne_self_eq_false]
  apply Tot.succ
  simp only [laws_FnExactDiskWrite.j2, Bool.false_eq_true, if_false]
  refine Tot.bind hheld ?_
  rintro q hq
  simp only [if_neg (show ¬ q < 0 by omega), if_pos (show q = n.1 by omega)]
  exact Tot.ret rfl

end Go.Proofs.Ytepihebkdnmppaa.Pure
