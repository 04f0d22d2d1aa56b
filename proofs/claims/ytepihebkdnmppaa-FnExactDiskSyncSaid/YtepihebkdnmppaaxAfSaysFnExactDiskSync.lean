import Derived.Test.YtepihebkdnmppaaxAf8
namespace Go.Proofs.Ytepihebkdnmppaa.Af
open Go.RowKit Go.Proofs.Ytepihebkdnmppaa.Af Go.Proofs.YtepihebkdnmppaaV.PrintWords Go.Proofs.YtepihebkdnmppaaV.PrintLast Go.Proofs.YtepihebkdnmppaaV.PrintMore
/-- What is to be proved of the plain function. -/
def laws_FnExactDiskSync.Pure : Prop := ∀ (l0_0 : List ByteArray) (l0_1 : List (S92)) (a0_2 : Int) (a0_3 : Int), ((l0_0.length ≤ maxLen ∧ ∀ x ∈ l0_0, x.size ≤ maxLen) ∧ (l0_1.length ≤ maxLen ∧ ∀ x ∈ l0_1, ((Lit.int .i64 x.f0).wf = true ∧ x.f1.size ≤ maxLen)) ∧ (Lit.int .i64 a0_2).wf = true ∧ (Lit.int .i64 a0_3).wf = true) → ∃ k : Nat, laws_FnExactDiskSync.f k l0_0 l0_1 a0_2 a0_3 = some true
end Go.Proofs.Ytepihebkdnmppaa.Af
