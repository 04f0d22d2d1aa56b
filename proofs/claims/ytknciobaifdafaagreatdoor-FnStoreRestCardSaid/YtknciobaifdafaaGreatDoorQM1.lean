/- Walks of the laws' helpers, part 4: the texts of marks. -/
import Derived.Test.YtknciobaifdafaaGreatDoorQEZ
import Derived.Test.YtknciobaifdafaaGreatDoorQD
import Derived.Test.YtknciobaifdafaaGreatDoorQM
import Derived.Test.YtknciobaifdafaaGreatDoorQC
set_option linter.unusedVariables false
set_option maxRecDepth 100000
set_option maxHeartbeats 4000000
set_option linter.unusedSimpArgs false
namespace Go.Proofs.YtknciobaifdafaaGreatDoor.T
open Go Go.Pv Go.Proofs.YtknciobaifdafaaGreatDoor.EF
end Go.Proofs.YtknciobaifdafaaGreatDoor.T
set_option linter.unusedVariables false
set_option maxRecDepth 100000
set_option maxHeartbeats 4000000
set_option linter.unusedSimpArgs false
namespace Go.Pv
variable {P : Program} {R : Nat → Prop} {mem : Mem} {st : St} {o : Oper} {ops : Array Oper} {base i : Nat} {Q : St → Exit → Prop}
  {rest : List Oper} {K : St → Prop} {f : FuncId} {c : Call} {fo : Operand} {cargs : List PV} {r : PV} {rows : List (TypeId × List PV)}
theorem pI (hg : gd ops o st.tmps = some true) (ho : o.op = .call c) (hc : c.callee = .value fo) (hf : St.eval st fo = .b (.func (.func f) #[] #[])) (hcal : callable P f = true)
    (hok : Ok P f cargs r rows) (hcl : All2 (vw P (fun _ => none) st.mem) (c.args.toList.map st.eval) cargs) (how : ownV r = true ∧ (rows.all fun e => e.2.all ownC) = true) (hfree : ∀ q, q < rows.length → st.mem (base + 16 * i + q) = .free) (hgo : GOk P r) (hgr : ∀ e ∈ rows, ∀ z ∈ e.2, HOk P z)
    (h : aops P base ops (i + 1) rest (put st o.dst (sh (base + 16 * i) r) (aH (base + 16 * i) (bg (base + 16 * i) rows) st.mem)) K) : aops P base ops i (o :: rest) st K :=
  ou hg ho hc hf hcal hok hfree hgo hgr (.inr ⟨hcl, how⟩) h
end Go.Pv
namespace Go.Proofs.YtknciobaifdafaaGreatDoor.T
open Go Go.Pv Go.Proofs.YtknciobaifdafaaGreatDoor.EF
end Go.Proofs.YtknciobaifdafaaGreatDoor.T
