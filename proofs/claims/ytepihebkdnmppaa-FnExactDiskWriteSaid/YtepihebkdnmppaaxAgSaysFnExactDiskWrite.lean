import Derived.Test.YtepihebkdnmppaaxAg8
namespace Go.Proofs.Ytepihebkdnmppaa.Ag
open Go.RowKit Go.Proofs.Ytepihebkdnmppaa.Ag Go.Proofs.YtepihebkdnmppaaV.PrintWords Go.Proofs.YtepihebkdnmppaaV.PrintLast Go.Proofs.YtepihebkdnmppaaV.PrintMore
/-- What is to be proved of the plain function. -/
def laws_FnExactDiskWrite.Pure : Prop := ∀ (l0_0 : List ByteArray) (l0_1 : List (S92)) (a0_2 : Int) (a0_3 : Int) (a1 : Int) (a2 : ByteArray), ((l0_0.length ≤ maxLen ∧ ∀ x ∈ l0_0, x.size ≤ maxLen) ∧ (l0_1.length ≤ maxLen ∧ ∀ x ∈ l0_1, ((Lit.int .i64 x.f0).wf = true ∧ x.f1.size ≤ maxLen)) ∧ (Lit.int .i64 a0_2).wf = true ∧ (Lit.int .i64 a0_3).wf = true) → (Lit.int .i64 a1).wf = true → a2.size ≤ maxLen → ∃ k : Nat, laws_FnExactDiskWrite.f k l0_0 l0_1 a0_2 a0_3 a1 a2 = some true
end Go.Proofs.Ytepihebkdnmppaa.Ag
