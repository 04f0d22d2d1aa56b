/- The program's RowPut returns what the reference's returns, for all arguments; its row, and its card. -/
import Derived.Test.YtneapbfomhalpaaGreatDoorQYG
import Derived.Test.YtneapbfomhalpaaGreatDoorQWO
set_option linter.unusedVariables false
set_option linter.unusedSimpArgs false
set_option maxRecDepth 100000
namespace Go.Proofs.YtneapbfomhalpaaGreatDoor.T
open Go Go.Pv Go.ChangeShapes Go.WideShapes Go.ChangeAt Go.RowKit
theorem maxLen_le4 : maxLen ≤ 9223372036854775807 := by decide
theorem rowG_in {l : List Vl} (h : l.length ≤ maxLen ∧ ∀ x ∈ l, VlG x) : RowIn l := by
  have := maxLen_le4
  refine ⟨by omega, fun k => ?_⟩
  rcases Nat.lt_or_ge k l.length with hk | hk
  · have hx := h.2 (l.getD k vl0) (by rw [← getV_of_lt hk]; exact List.getElem_mem hk)
    obtain ⟨_, _, ⟨⟨_, h1, _⟩, _⟩, _, _, h2⟩ := hx
    exact ⟨by omega, by omega⟩
  · rw [List.getD_eq_getElem?_getD, List.getElem?_eq_none hk]
    exact ⟨by decide, by decide⟩
theorem lifted2 (os : Os) (started : os.Started) (H : Type) (enc : TypeId × Value → H) :
    ReturnsInHanded {} Tryz.checked os 4 .any (fun w args => (Rows.fnExactRowPutSpec.pre enc Tryz.prog Tryz.f4 [] false w args ∧ laidMetH Tryz.prog laidL w) ∧ sizedMet enc Tryz.prog Tryz.f4 (OpenSpec.ofChange Rows.fnExactRowPutSpec) false w args)
      (Rows.fnExactRowPutSpec.post enc Tryz.prog Tryz.f4 false true false false) := by
  refine returns_shaped (C := Tryz.checked) (X := fun w _ => laidMetH Tryz.prog laidL w) (fun _ _ _ hh h => h.of_heap hh) own started (by kernel_rfl) Tryz.func4
    (ChangeSpec.witness_shaped (enc := enc) (C := Tryz.checked) (os := os) (X := fun w _ => laidMetH Tryz.prog laidL w) false (World.laidAll Tryz.prog os laidL) #[.slice none 0 0, .slice none 0 0] 2 rfl (World.shaped_of_ZipB (by kernel_rfl) (by kernel_rfl)) (by kernel_rfl) (by kernel_rfl) (by kernel_rfl) (laid_met os _)) ?_
  intro W base args ds gs before hsh hval0 hW hL
  have hval : ∀ (j : Nat) t v, Tryz.f4.params[j]? = some t → args[j]? = some v → Value.okWide Tryz.prog W .any base t v := hval0
  have hW' := hW
  obtain ⟨p, q, hA0, hV, rfl, hfz, hnd⟩ := hW
  have hA : DataW.TrodAll enc Tryz.prog W 0 (fun _ => true) true Tryz.f4.params.toList args.toList ds p := hA0
  rw [Tryz.params4] at hA hval
  obtain ⟨v0, vs0, d0, ds0, p0, q0, hargs, rfl, rfl, h0, r0⟩ := trodAll_cons hA
  obtain ⟨v1, vs1, d1, ds1, p1, q1, rfl, rfl, rfl, h1, r1⟩ := trodAll_cons r0
  obtain ⟨rfl, rfl, rfl⟩ := trodAll_nil r1
  obtain rfl : args = #[v0, v1] := by cases args; simp_all
  obtain ⟨rfl, rfl⟩ := trodVars_none hV
  have hv0 := okWideP_slice Tryz.underlying42 (hval 0 42 v0 rfl rfl)
  obtain ⟨s, hr, hG⟩ := opensP_arg1 typesO (fun _ => rfl) hv0 h0
  have hv1 := okWideP_slice Tryz.underlying43 (hval 1 43 v1 rfl rfl)
  obtain ⟨l, hr1, hG1⟩ := opensP_arg1 valuesO (fun _ => rfl) hv1 h1
  have hs : s.length ≤ 9223372036854775807 := by have := maxLen_le; have := hG.1; omega
  have hl := rowG_in hG1
  have lt0 : ∀ x ∈ p0, x.block < W.heap.size := by obtain ⟨m, hm⟩ := h0; exact DataW.trod_lt m _ _ _ hm
  have lt1 : ∀ x ∈ p1, x.block < W.heap.size := by obtain ⟨m, hm⟩ := h1; exact DataW.trod_lt m _ _ _ hm
  rw [MakeChecks.laidMetH_plain _ _ _ laid_plain] at hL
  refine (lawRowPut_ok s l hs hl (fun b => b < W.heap.size) W #[v0, v1] (fun _ h => h) ⟨gblk_lt hsh, gstd_of rfl hsh hL⟩ ?_).mono fun e W' he => ?_
  · exact RVs_two hr hr1
  · obtain ⟨v, φ', D', he, tr, mr, hv⟩ := he
    cases hv
    have bel : Below W.heap.size W W' := ⟨mr.os, mr.tape, mr.output, mr.size, fun k hk => tr.same k hk⟩
    exact ⟨_, he, _, _, _, [], _, [], hW', trodAll_mk1 (shut_bool Tryz.underlying4 _), (trodAll_cons_mk (Below.trod laidOut (by kernel_rfl) (of_decide_eq_true (by kernel_rfl)) h0 bel lt0) (trodAll_cons_mk (Below.trod laidOut (by kernel_rfl) (of_decide_eq_true (by kernel_rfl)) h1 bel lt1) trodAll_mk0)), rfl, bel.frame _, fun h => by cases h⟩
theorem law_row2 : Rows.FnExactRowPutSaid :=
  OpenClaim.holds_of_wide 4 Tryz.f4 rfl rfl rfl rfl rfl rfl rfl ⟨rfl, rfl, rfl, rfl, rfl⟩ rfl rfl rfl rfl rfl (by kernel_rfl) Tryz.func4 (by kernel_rfl)
    (of_decide_eq_true (by kernel_rfl)) (by unfold Func.isWrapper; first | (rw [if_pos (by decide +kernel)]; kernel_rfl) | (rw [if_neg (by decide +kernel)]; exact ⟨rfl, rfl⟩))
    (fun os started H enc _ => lifted2 os started H enc)
end Go.Proofs.YtneapbfomhalpaaGreatDoor.T
namespace Go.Proofs.YtneapbfomhalpaaGreatDoor
open Go
theorem fnExactRowPut_card : Rows.FnExactRowPutCardSaid :=
  Claim7.holds_tied_plain_at .later [] [.data, .data, .data, .data, .pinned] true (true, "c01de68fb86b8b0cfb8e59a8ceb7213681eb22876fe9ffc3ec75225f70ea5e81") false
    T.law_row2 (fun _ h => by cases h) (by kernel_rfl) (fun _ h => by cases h) fnExactRowPut_row_tie rfl ⟨rfl, rfl⟩ (by kernel_rfl) rfl
    (fun f fn hf hfn => by
      obtain rfl : f = 4 := Option.some.inj ((show Tryz.prog.funcNamed "loop.example/jetton/laws.FnExactRowPut" = some 4 by kernel_rfl).symm.trans hf) |>.symm
      obtain rfl : fn = Tryz.f4 := (Option.some.inj (Tryz.func4.symm.trans hfn)).symm
      exact ⟨by kernel_rfl, fun j t ht => by
        rw [Tryz.params4] at ht
        have h3 : t = 42 ∨ t = 43 := by
          rcases j with _ | _ | j
          · exact .inl (by simpa using ht.symm)
          · exact .inr (by simpa using ht.symm)
          · simp at ht
        rcases h3 with rfl | rfl
        · exact (show Tryz.prog.wantsStandIn 42 = false by kernel_rfl)
        · exact (show Tryz.prog.wantsStandIn 43 = false by kernel_rfl)⟩)
    (by kernel_rfl)
#print axioms fnExactRowPut_card
end Go.Proofs.YtneapbfomhalpaaGreatDoor
