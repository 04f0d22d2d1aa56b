/- At rest each page is where it belongs, and says what it said: of all drawn stores; its row, and its card. -/
import Derived.Test.YtknciobaifdafaaGreatDoorQXA
import Derived.Test.YtknciobaifdafaaGreatDoorQPW
set_option linter.unusedVariables false
set_option linter.unusedSimpArgs false
set_option maxRecDepth 100000
namespace Go.Proofs.YtknciobaifdafaaGreatDoor.T
open Go Go.Pv Go.ChangeShapes Go.WideShapes Go.ChangeAt Go.RowKit
theorem lifted (os : Os) (started : os.Started) (H : Type) (enc : TypeId × Value → H) :
    ReturnsInHanded {} Tryz.checked os 7 .any (fun w args => (Rows.fnStoreRestSpec.pre enc Tryz.prog Tryz.f7 [] false w args ∧ laidMetH Tryz.prog eY w) ∧ sizedMet enc Tryz.prog Tryz.f7 (OpenSpec.ofChange Rows.fnStoreRestSpec) false w args)
      (Rows.fnStoreRestSpec.post enc Tryz.prog Tryz.f7 false true false false) := by
  refine eX (C := Tryz.checked) (X := fun w _ => laidMetH Tryz.prog eY w) (fun _ _ _ hh h => h.of_heap hh) own started (by kernel_rfl) Tryz.func7
    (ChangeSpec.witness_shaped (enc := enc) (C := Tryz.checked) (os := os) (X := fun w _ => laidMetH Tryz.prog eY w) false (World.laidAll Tryz.prog os eY) #[.slice none 0 0] 1 rfl (World.shaped_of_ZipB (by kernel_rfl) (by kernel_rfl)) (by kernel_rfl) (by kernel_rfl) (by kernel_rfl) (laid_met os _)) ?_
  intro W base args ds gs before hsh hval0 hW hL
  have hval : ∀ (j : Nat) t v, Tryz.f7.params[j]? = some t → args[j]? = some v → Value.okWide Tryz.prog W .any base t v := hval0
  have hW' := hW
  obtain ⟨p, q, hA0, hV, rfl, hfz, hnd⟩ := hW
  have hA : DataW.TrodAll enc Tryz.prog W 0 (fun _ => true) true Tryz.f7.params.toList args.toList ds p := hA0
  rw [Tryz.params7] at hA hval
  obtain ⟨v0, vs0, d0, ds0, p0, q0, hargs, rfl, rfl, h0, r0⟩ := trodAll_cons hA
  obtain ⟨rfl, rfl, rfl⟩ := trodAll_nil r0
  obtain rfl : args = #[v0] := by cases args; simp_all
  obtain ⟨rfl, rfl⟩ := trodVars_none hV
  have hv0 := dD Tryz.underlying46 (hval 0 46 v0 rfl rfl)
  obtain ⟨c, hr, hG⟩ := eu tV (fun _ => rfl) hv0 h0
  have lt0 : ∀ x ∈ p0, x.block < W.heap.size := by obtain ⟨m, hm⟩ := h0; exact DataW.trod_lt m _ _ _ hm
  rw [MakeChecks.laidMetH_plain _ _ _ iQ] at hL
  refine (lawStoreRest_ok c (lg hG.2) (by have := dR; have := hG.1; omega) (fun b => b < W.heap.size) W #[v0] (fun _ h => h) ⟨pY hsh, pX rfl hsh hL⟩ ?_).mono fun e W' he => ?_
  · exact yR hr
  · obtain ⟨v, φ', D', he, tr, mr, hv⟩ := he
    cases hv
    have bel : Below W.heap.size W W' := ⟨mr.os, mr.tape, mr.output, mr.size, fun k hk => tr.same k hk⟩
    exact ⟨_, he, _, _, _, [], _, [], hW', trodAll_mk1 (shut_bool Tryz.underlying4 _), (trodAll_cons_mk (Below.trod laidOut (by kernel_rfl) (of_decide_eq_true (by kernel_rfl)) h0 bel lt0) trodAll_mk0), rfl, bel.frame _, fun h => by cases h⟩
theorem law_row : Rows.FnStoreRestSaid :=
  OpenClaim.holds_of_wide 7 Tryz.f7 rfl rfl rfl rfl rfl rfl rfl ⟨rfl, rfl, rfl, rfl, rfl⟩ rfl rfl rfl rfl rfl (by kernel_rfl) Tryz.func7 (by kernel_rfl)
    (of_decide_eq_true (by kernel_rfl)) (by unfold Func.isWrapper; first | (rw [if_pos (by decide +kernel)]; kernel_rfl) | (rw [if_neg (by decide +kernel)]; exact ⟨rfl, rfl⟩))
    (fun os started H enc _ => lifted os started H enc)
end Go.Proofs.YtknciobaifdafaaGreatDoor.T
namespace Go.Proofs.YtknciobaifdafaaGreatDoor
open Go
theorem fnStoreRest_card : Rows.FnStoreRestCardSaid :=
  Claim7.holds_tied_plain_at .later [] [.data, .data, .data, .data, .sentinel, .sentinel, .pinned] true (true, "c9bec711eeb11a5f045d279037c09a988bc8ccb69b82660b98673ddadfeb9dd3") true
    T.law_row (fun _ h => by cases h) (by kernel_rfl) (fun _ h => by cases h) fnStoreRest_row_tie rfl ⟨rfl, rfl⟩ (by kernel_rfl) rfl
    (fun f fn hf hfn => by
      obtain rfl : f = 7 := Option.some.inj ((show Tryz.prog.funcNamed "loop.example/jetton/laws.FnStoreRest" = some 7 by kernel_rfl).symm.trans hf) |>.symm
      obtain rfl : fn = Tryz.f7 := (Option.some.inj (Tryz.func7.symm.trans hfn)).symm
      exact ⟨by kernel_rfl, fun j t ht => by
        rw [Tryz.params7] at ht
        have h3 : t = 46 := by
          rcases j with _ | j
          · simpa using ht.symm
          · simp at ht
        subst h3
        exact (show Tryz.prog.wantsStandIn 46 = false by kernel_rfl)⟩)
    (by kernel_rfl)
#print axioms fnStoreRest_card
end Go.Proofs.YtknciobaifdafaaGreatDoor
