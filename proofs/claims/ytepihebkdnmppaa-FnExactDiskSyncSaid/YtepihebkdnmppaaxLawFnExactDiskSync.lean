/- Walks of the seat's functions, written by a program of this session (xprint.py) with the kit's printer: each call comes to just what its Lean function says. -/
import Derived.Test.YtepihebkdnmppaaRows
import Derived.Test.YtepihebkdnmppaaxAf8
import Derived.Test.YtepihebkdnmppaaxPureFnExactDiskSync
import Derived.Test.YtepihebkdnmppaaxVOpens
import Derived.WalkKit
import Derived.ProofKit
import Derived.OpenShut
import Derived.ShutString
import Derived.ChangeOld
import Derived.Below
import Derived.SizedLaws
import Derived.Carry
namespace Go.Proofs.Ytepihebkdnmppaa.fnExactDiskSync
open Go.ChangeShapes Go.WideShapes Go.ChangeAt Go.RowKit
open Go.RowKit Go.Proofs.Ytepihebkdnmppaa.Af Go.Proofs.YtepihebkdnmppaaV.PrintWords Go.Proofs.YtepihebkdnmppaaV.PrintLast Go.Proofs.YtepihebkdnmppaaV.PrintMore
set_option linter.unusedVariables false
theorem own : ownKnob Try.prog.godebug = none := by kernel_rfl
theorem laidOut : laidOutB Try.prog = true := by kernel_rfl
theorem cells_agg {cs : Array Value} {l : List Value} (h : (Value.agg cs).cells.toList = l) : cs = l.toArray := by
  subst h
  simp [Value.cells]
set_option maxRecDepth 100000 in
theorem lifted (os : Os) (started : os.Started) (H : Type) (enc : TypeId × Value → H) :
    ReturnsInHanded {} Try.checked os 9 .any (Rows.fnExactDiskSyncSpec.pre6 enc Try.prog Try.f9 Rows.fnExactDiskSyncRow.domain false) (Rows.fnExactDiskSyncSpec.post enc Try.prog Try.f9 false true false false) := by
  refine returnsInHanded_of_change_sized (C := Try.checked) own started (by kernel_rfl) Try.func9
    (ChangeSpec.witness6 (enc := enc) (C := Try.checked) false ⟨#[], #[.agg #[.slice none 0 0, .slice none 0 0, .int .i64 0, .int .i64 0]], []⟩ 8 (by kernel_rfl) (by kernel_rfl) (by kernel_rfl) (by kernel_rfl)) ?_
  intro W base args ds gs before hval0 hW hcnd hsz0 _
  have hval : ∀ (j : Nat) t v, Try.f9.params[j]? = some t → args[j]? = some v → Value.okWide Try.prog W .any base t v := hval0
  have hW' := hW
  obtain ⟨p, q, hA0, hV, rfl, hfz, hnd⟩ := hW
  have hA : DataW.TrodAll enc Try.prog W 0 (fun _ => true) true Try.f9.params.toList args.toList ds p := hA0
  rw [Try.params9] at hA hval
  obtain ⟨v0, vs0, d0, ds0, p0, q0, hargs, rfl, rfl, h0, r0⟩ := trodAll_cons hA
  obtain ⟨rfl, rfl, rfl⟩ := trodAll_nil r0
  obtain rfl : args = #[v0] := by cases args; simp_all
  obtain ⟨rfl, rfl⟩ := trodVars_none hV
  obtain ⟨cs0, rfl⟩ := okWide_agg Try.underlying43 (hval 0 43 v0 rfl rfl)
  obtain ⟨x0, K0, G0⟩ := opens_arg (opens_struct Try.underlying43 (by kernel_rfl) (fields_cons (opens_slice Try.underlying23 (by kernel_rfl) (opens_string Try.underlying9 (by kernel_rfl))) rfl (fields_cons (opens_slice Try.underlying41 (by kernel_rfl) (opens_iso (opens_struct Try.underlying92 (by kernel_rfl) (fields_cons (opens_int Try.underlying3 (by kernel_rfl)) rfl (fields_one (opens_string Try.underlying9 (by kernel_rfl)) rfl))) (fun x : S92 => (x.f0, x.f1)) (fun y => ⟨y.1, y.2⟩) (fun _ => rfl))) rfl (fields_cons (opens_int Try.underlying3 (by kernel_rfl)) rfl (fields_one (opens_int Try.underlying3 (by kernel_rfl)) rfl))))) h0
  obtain ⟨l0_0, l0_1, a0_2, a0_3⟩ := x0
  obtain ⟨_, _, e0, ⟨Al0_0, cl0_0, rfl, hcl0_0, hrl0_0⟩, ⟨_, _, rfl, ⟨Al0_1, cl0_1, rfl, hcl0_1, hrl0_1⟩, ⟨_, _, rfl, rfl, rfl⟩⟩⟩ := K0
  obtain rfl : cs0 = #[.slice Al0_0 l0_0.length cl0_0, .slice Al0_1 l0_1.length cl0_1, .int .i64 a0_2, .int .i64 a0_3] := cells_agg e0
  have lt0 : ∀ x ∈ p0, x.block < W.heap.size := by obtain ⟨m, hm⟩ := h0; exact DataW.trod_lt m _ _ _ hm
  obtain ⟨k, hf⟩ := Pure.FnExactDiskSync l0_0 l0_1 a0_2 a0_3 G0
  refine (laws_FnExactDiskSync.calls k _ _ l0_0 _ _ l0_1 a0_2 a0_3 W hrl0_0 hcl0_0 hrl0_1 hcl0_1 hf).mono fun e W' he => ?_
  obtain ⟨rfl, bel⟩ := he
  exact ⟨_, rfl, _, _, _, [], _, [], hW', trodAll_mk1 (shut_bool Try.underlying4 _), (trodAll_cons_mk (Below.trod laidOut (by kernel_rfl) (of_decide_eq_true (by kernel_rfl)) h0 bel lt0) trodAll_mk0), rfl, bel.frame _, fun h => by cases h⟩
theorem over : Rows.fnExactDiskSyncRow.holds Try.pinned (OpenSpec.ofChange Rows.fnExactDiskSyncSpec) :=
  OpenClaim.holds_of_wide 9 Try.f9 rfl rfl rfl rfl rfl rfl rfl ⟨rfl, rfl, rfl, rfl, rfl⟩ rfl rfl rfl rfl rfl (by kernel_rfl) Try.func9 (by kernel_rfl)
    (of_decide_eq_true (by kernel_rfl)) (by unfold Func.isWrapper; first | (rw [if_pos (by decide +kernel)]; kernel_rfl) | (rw [if_neg (by decide +kernel)]; exact ⟨rfl, rfl⟩))
    (fun os started H enc _ => lifted os started H enc)
theorem proved : Rows.FnExactDiskSyncSaid := over
#print axioms proved
end Go.Proofs.Ytepihebkdnmppaa.fnExactDiskSync
namespace Go.Proofs.Ytepihebkdnmppaa
/-- The row, under a short name, for the claim. -/
theorem fnExactDiskSync_holds : Rows.FnExactDiskSyncSaid := fnExactDiskSync.proved
end Go.Proofs.Ytepihebkdnmppaa
