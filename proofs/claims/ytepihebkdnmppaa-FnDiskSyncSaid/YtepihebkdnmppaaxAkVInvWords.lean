import Derived.Test.YtepihebkdnmppaaxAkVInv
import Derived.Test.YtepihebkdnmppaaxAkVFootNe
namespace Go.Proofs.YtepihebkdnmppaaV.PrintWords
open Go.RowKit
end Go.Proofs.YtepihebkdnmppaaV.PrintWords
namespace Go.Proofs.YtepihebkdnmppaaV.PrintLast
section
variable {ops : Array Oper} {a : Act} {o og : Oper} {g : Nat} {t : Tmp} {u : Bool}
end
end Go.Proofs.YtepihebkdnmppaaV.PrintLast
