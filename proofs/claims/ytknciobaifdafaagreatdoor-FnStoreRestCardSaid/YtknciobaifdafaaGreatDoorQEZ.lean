/- What the steps may use of the seat's facts. -/
import Derived.Test.YtknciobaifdafaaGreatDoorQEX
import Derived.Test.YtknciobaifdafaaGreatDoorQD
namespace Go.Proofs.YtknciobaifdafaaGreatDoor.EF
open Go.Pv
attribute [go_sem] J4 LX LY OB oC qW Ji xn dC J7 MC FQ
attribute [go_sem] QE ti3 ti4 ti5 ti9 ti22 ti31 ti33 ti35 ti39 ti46 ti77 ti97 QF QG QH ui3 ub4 ui5 us9 se22 se31 sp33 zg PM PN PO sp35 Hw DK PP PQ DL se39 se46 by46 sp77 PR PS se90 se95 sp97 PT PU PW PX PY PZ QI Oc Oe QJ Og Oh QK Oi Oj Ol Om Oo Oq Ot Ou
end Go.Proofs.YtknciobaifdafaaGreatDoor.EF
