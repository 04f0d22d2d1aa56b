/- A fall behind the rest of a drawn store: what is read then has the same pages; its row, and its card. -/
import Derived.Test.YtknciobaifdafaaGreatDoorQXF
import Derived.Test.YtknciobaifdafaaGreatDoorQPW
set_option linter.unusedVariables false
set_option linter.unusedSimpArgs false
set_option maxRecDepth 100000
namespace Go.Proofs.YtknciobaifdafaaGreatDoor.T
open Go Go.Pv Go.ChangeShapes Go.WideShapes Go.ChangeAt Go.RowKit
theorem lifted (os : Os) (started : os.Started) (H : Type) (enc : TypeId × Value → H) :
    ReturnsInHanded {} Tryz.checked os 8 .any (fun w args => (Rows.fnStoreRestCrashSpec.pre enc Tryz.prog Tryz.f8 [] false w args ∧ laidMetH Tryz.prog eY w) ∧ sizedMet enc Tryz.prog Tryz.f8 (OpenSpec.ofChange Rows.fnStoreRestCrashSpec) false w args)
      (Rows.fnStoreRestCrashSpec.post enc Tryz.prog Tryz.f8 false true false false) := by
  refine eX (C := Tryz.checked) (X := fun w _ => laidMetH Tryz.prog eY w) (fun _ _ _ hh h => h.of_heap hh) own started (by kernel_rfl) Tryz.func8
    (ChangeSpec.witness_shaped (enc := enc) (C := Tryz.checked) (os := os) (X := fun w _ => laidMetH Tryz.prog eY w) false (World.laidAll Tryz.prog os eY) #[.slice none 0 0, .slice none 0 0] 2 rfl (World.shaped_of_ZipB (by kernel_rfl) (by kernel_rfl)) (by kernel_rfl) (by kernel_rfl) (by kernel_rfl) (laid_met os _)) ?_
  intro W base args ds gs before hsh hval0 hW hL
  have hval : ∀ (j : Nat) t v, Tryz.f8.params[j]? = some t → args[j]? = some v → Value.okWide Tryz.prog W .any base t v := hval0
  have hW' := hW
  obtain ⟨p, q, hA0, hV, rfl, hfz, hnd⟩ := hW
  have hA : DataW.TrodAll enc Tryz.prog W 0 (fun _ => true) true Tryz.f8.params.toList args.toList ds p := hA0
  rw [Tryz.params8] at hA hval
  obtain ⟨v0, vs0, d0, ds0, p0, q0, hargs, rfl, rfl, h0, r0⟩ := trodAll_cons hA
  obtain ⟨v1, vs1, d1, ds1, p1, q1, rfl, rfl, rfl, h1, r1⟩ := trodAll_cons r0
  obtain ⟨rfl, rfl, rfl⟩ := trodAll_nil r1
  obtain rfl : args = #[v0, v1] := by cases args; simp_all
  obtain ⟨rfl, rfl⟩ := trodVars_none hV
  have hv0 := dD Tryz.underlying46 (hval 0 46 v0 rfl rfl)
  obtain ⟨c, hr, hG⟩ := eu tV (fun _ => rfl) hv0 h0
  have hv1 := dD Tryz.underlying46 (hval 1 46 v1 rfl rfl)
  obtain ⟨e1, hr1, hG1⟩ := eu tV (fun _ => rfl) hv1 h1
  have lt0 : ∀ x ∈ p0, x.block < W.heap.size := by obtain ⟨m, hm⟩ := h0; exact DataW.trod_lt m _ _ _ hm
  have lt1 : ∀ x ∈ p1, x.block < W.heap.size := by obtain ⟨m, hm⟩ := h1; exact DataW.trod_lt m _ _ _ hm
  rw [MakeChecks.laidMetH_plain _ _ _ iQ] at hL
  refine (qJ c e1 (lg hG.2) (lg hG1.2) (by have := dR; have := hG.1; omega) (by have := dR; have := hG1.1; omega) (fun b => b < W.heap.size) W #[v0, v1] (fun _ h => h) ⟨pY hsh, pX rfl hsh hL⟩ ?_).mono fun e W' he => ?_
  · exact Ez hr hr1
  · obtain ⟨v, φ', D', he, tr, mr, hv⟩ := he
    cases hv
    have bel : Below W.heap.size W W' := ⟨mr.os, mr.tape, mr.output, mr.size, fun k hk => tr.same k hk⟩
    exact ⟨_, he, _, _, _, [], _, [], hW', trodAll_mk1 (shut_bool Tryz.underlying4 _), (trodAll_cons_mk (Below.trod laidOut (by kernel_rfl) (of_decide_eq_true (by kernel_rfl)) h0 bel lt0) (trodAll_cons_mk (Below.trod laidOut (by kernel_rfl) (of_decide_eq_true (by kernel_rfl)) h1 bel lt1) trodAll_mk0)), rfl, bel.frame _, fun h => by cases h⟩
theorem law_row : Rows.FnStoreRestCrashSaid :=
  OpenClaim.holds_of_wide 8 Tryz.f8 rfl rfl rfl rfl rfl rfl rfl ⟨rfl, rfl, rfl, rfl, rfl⟩ rfl rfl rfl rfl rfl (by kernel_rfl) Tryz.func8 (by kernel_rfl)
    (of_decide_eq_true (by kernel_rfl)) (by unfold Func.isWrapper; first | (rw [if_pos (by decide +kernel)]; kernel_rfl) | (rw [if_neg (by decide +kernel)]; exact ⟨rfl, rfl⟩))
    (fun os started H enc _ => lifted os started H enc)
end Go.Proofs.YtknciobaifdafaaGreatDoor.T
namespace Go.Proofs.YtknciobaifdafaaGreatDoor
open Go
theorem fnStoreRestCrash_card : Rows.FnStoreRestCrashCardSaid :=
  Claim7.holds_tied_plain_at .later [] [.data, .data, .data, .data, .sentinel, .sentinel, .pinned] true (true, "c9bec711eeb11a5f045d279037c09a988bc8ccb69b82660b98673ddadfeb9dd3") true
    T.law_row (fun _ h => by cases h) (by kernel_rfl) (fun _ h => by cases h) fnStoreRestCrash_row_tie rfl ⟨rfl, rfl⟩ (by kernel_rfl) rfl
    (fun f fn hf hfn => by
      obtain rfl : f = 8 := Option.some.inj ((show Tryz.prog.funcNamed "loop.example/jetton/laws.FnStoreRestCrash" = some 8 by kernel_rfl).symm.trans hf) |>.symm
      obtain rfl : fn = Tryz.f8 := (Option.some.inj (Tryz.func8.symm.trans hfn)).symm
      exact ⟨by kernel_rfl, fun j t ht => by
        rw [Tryz.params8] at ht
        have h3 : t = 46 := by
          rcases j with _ | _ | j
          · simpa using ht.symm
          · simpa using ht.symm
          · simp at ht
        subst h3
        exact (show Tryz.prog.wantsStandIn 46 = false by kernel_rfl)⟩)
    (by kernel_rfl)
#print axioms fnStoreRestCrash_card
end Go.Proofs.YtknciobaifdafaaGreatDoor
