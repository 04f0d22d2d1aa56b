/-
  No cell of these rows narrows 'for every input' (looked for: loops, veiled, ifaces, maps, wideKeys, modest, calm, conditions, laid).
  DERIVED. THE GIVEN ROWS OF THIS SEAT. 8 by the template 'for every input the law returns true; each argument reads behind the call as it read before'; 0 by the template 'total and deterministic' (their statements: YtepihebkdnmppaaTotals.lean).
  GIVEN WITH THE SEED: the statements are not yours to turn. If you find one false, say at which input.
  Laid BY PROGRAM, IN A SANDBOX (cutbox-rows.mjs): the forced cells as the released guide's own fill.sh prints them over the translation 41af56fe84f38753… (all of the seat's roots in one cut). By AI agents, Wed Nov 11 2026. No macro, syntax, notation, axiom, sorry.
-/
import Derived.Test.YtepihebkdnmppaaChecked
import GoSem.Claim
import GoSem.ClaimJoined
import GoSem.ClaimMapViews
import Derived.JoinedTies
import Derived.KernelRfl
namespace Go.Proofs.Ytepihebkdnmppaa
/- THE CELL 'sum', in the pinned program and in every row, IS THE sha256 OF THE DUMP (.gsa) THAT YtepihebkdnmppaaProg.lean LOADS. Nothing in Lean hashes anything: it is a label: what it is worth is what the hold of that sum in a sandbox is worth. -/
noncomputable def Try.pinned : Pinned := { name := "ytepihebkdnmppaa", sum := "41af56fe84f38753cdecc0a4a838c7b6a9e627edf831087fae530b3372c6fa0b", checked := Try.checked }
namespace Rows
def none {H : Type} : Left H := { results := [], args := [] }

/-- 'laws.FnDiskRoom': WHATEVER THE INPUT: true; the input reads as it did. -/
def fnDiskRoomSpec : ChangeSpec := { name := "fnDiskRoom", fn := fun _ => fun
  | [d] => { results := [.lit (.bool true)], args := [d] }
  | _ => none }
def fnDiskRoomRow : OpenClaim := { program := "ytepihebkdnmppaa", sum := "41af56fe84f38753cdecc0a4a838c7b6a9e627edf831087fae530b3372c6fa0b", func := "loop.example/jetton/laws.FnDiskRoom", spec := "fnDiskRoom", unfollowed := true, recurses := true, apart := false }
def FnDiskRoomSaid : Prop := fnDiskRoomRow.holds Try.pinned (OpenSpec.ofChange fnDiskRoomSpec)

/-- ITS FALSE NEIGHBOUR: 'it returns false'. Refute it at one input. -/
def fnDiskRoomWrong : ChangeSpec := { name := "fnDiskRoom", fn := fun _ => fun
  | [d] => { results := [.lit (.bool false)], args := [d] }
  | _ => none }
def FnDiskRoomWrongFalsely : Prop := fnDiskRoomRow.holds Try.pinned (OpenSpec.ofChange fnDiskRoomWrong)

/-- 'laws.FnDiskTwo': WHATEVER THE INPUT: true; the input reads as it did. -/
def fnDiskTwoSpec : ChangeSpec := { name := "fnDiskTwo", fn := fun _ => fun
  | [d1, d2] => { results := [.lit (.bool true)], args := [d1, d2] }
  | _ => none }
def fnDiskTwoRow : OpenClaim := { program := "ytepihebkdnmppaa", sum := "41af56fe84f38753cdecc0a4a838c7b6a9e627edf831087fae530b3372c6fa0b", func := "loop.example/jetton/laws.FnDiskTwo", spec := "fnDiskTwo", unfollowed := true, recurses := true, apart := false }
def FnDiskTwoSaid : Prop := fnDiskTwoRow.holds Try.pinned (OpenSpec.ofChange fnDiskTwoSpec)

/-- ITS FALSE NEIGHBOUR: 'it returns false'. Refute it at one input. -/
def fnDiskTwoWrong : ChangeSpec := { name := "fnDiskTwo", fn := fun _ => fun
  | [d1, d2] => { results := [.lit (.bool false)], args := [d1, d2] }
  | _ => none }
def FnDiskTwoWrongFalsely : Prop := fnDiskTwoRow.holds Try.pinned (OpenSpec.ofChange fnDiskTwoWrong)

/-- 'laws.FnDiskWrite': WHATEVER THE INPUT: true; the input reads as it did. -/
def fnDiskWriteSpec : ChangeSpec := { name := "fnDiskWrite", fn := fun _ => fun
  | [d] => { results := [.lit (.bool true)], args := [d] }
  | _ => none }
def fnDiskWriteRow : OpenClaim := { program := "ytepihebkdnmppaa", sum := "41af56fe84f38753cdecc0a4a838c7b6a9e627edf831087fae530b3372c6fa0b", func := "loop.example/jetton/laws.FnDiskWrite", spec := "fnDiskWrite", unfollowed := true, recurses := true, apart := false }
def FnDiskWriteSaid : Prop := fnDiskWriteRow.holds Try.pinned (OpenSpec.ofChange fnDiskWriteSpec)

/-- ITS FALSE NEIGHBOUR: 'it returns false'. Refute it at one input. -/
def fnDiskWriteWrong : ChangeSpec := { name := "fnDiskWrite", fn := fun _ => fun
  | [d] => { results := [.lit (.bool false)], args := [d] }
  | _ => none }
def FnDiskWriteWrongFalsely : Prop := fnDiskWriteRow.holds Try.pinned (OpenSpec.ofChange fnDiskWriteWrong)

/-- 'laws.FnDiskLeft': WHATEVER THE INPUT: true; the input reads as it did. -/
def fnDiskLeftSpec : ChangeSpec := { name := "fnDiskLeft", fn := fun _ => fun
  | [d] => { results := [.lit (.bool true)], args := [d] }
  | _ => none }
def fnDiskLeftRow : OpenClaim := { program := "ytepihebkdnmppaa", sum := "41af56fe84f38753cdecc0a4a838c7b6a9e627edf831087fae530b3372c6fa0b", func := "loop.example/jetton/laws.FnDiskLeft", spec := "fnDiskLeft", unfollowed := true, recurses := true, apart := false }
def FnDiskLeftSaid : Prop := fnDiskLeftRow.holds Try.pinned (OpenSpec.ofChange fnDiskLeftSpec)

/-- ITS FALSE NEIGHBOUR: 'it returns false'. Refute it at one input. -/
def fnDiskLeftWrong : ChangeSpec := { name := "fnDiskLeft", fn := fun _ => fun
  | [d] => { results := [.lit (.bool false)], args := [d] }
  | _ => none }
def FnDiskLeftWrongFalsely : Prop := fnDiskLeftRow.holds Try.pinned (OpenSpec.ofChange fnDiskLeftWrong)

/-- 'laws.FnExactDiskSet': WHATEVER THE INPUT: true; the input reads as it did. -/
def fnExactDiskSetSpec : ChangeSpec := { name := "fnExactDiskSet", fn := fun _ => fun
  | [d1, d2, d3] => { results := [.lit (.bool true)], args := [d1, d2, d3] }
  | _ => none }
def fnExactDiskSetRow : OpenClaim := { program := "ytepihebkdnmppaa", sum := "41af56fe84f38753cdecc0a4a838c7b6a9e627edf831087fae530b3372c6fa0b", func := "loop.example/jetton/laws.FnExactDiskSet", spec := "fnExactDiskSet", unfollowed := true, recurses := true, apart := false }
def FnExactDiskSetSaid : Prop := fnExactDiskSetRow.holds Try.pinned (OpenSpec.ofChange fnExactDiskSetSpec)

/-- ITS FALSE NEIGHBOUR: 'it returns false'. Refute it at one input. -/
def fnExactDiskSetWrong : ChangeSpec := { name := "fnExactDiskSet", fn := fun _ => fun
  | [d1, d2, d3] => { results := [.lit (.bool false)], args := [d1, d2, d3] }
  | _ => none }
def FnExactDiskSetWrongFalsely : Prop := fnExactDiskSetRow.holds Try.pinned (OpenSpec.ofChange fnExactDiskSetWrong)

/-- 'laws.FnDiskSync': WHATEVER THE INPUT: true; the input reads as it did. -/
def fnDiskSyncSpec : ChangeSpec := { name := "fnDiskSync", fn := fun _ => fun
  | [d1, d2] => { results := [.lit (.bool true)], args := [d1, d2] }
  | _ => none }
def fnDiskSyncRow : OpenClaim := { program := "ytepihebkdnmppaa", sum := "41af56fe84f38753cdecc0a4a838c7b6a9e627edf831087fae530b3372c6fa0b", func := "loop.example/jetton/laws.FnDiskSync", spec := "fnDiskSync", unfollowed := true, recurses := true, apart := false }
def FnDiskSyncSaid : Prop := fnDiskSyncRow.holds Try.pinned (OpenSpec.ofChange fnDiskSyncSpec)

/-- ITS FALSE NEIGHBOUR: 'it returns false'. Refute it at one input. -/
def fnDiskSyncWrong : ChangeSpec := { name := "fnDiskSync", fn := fun _ => fun
  | [d1, d2] => { results := [.lit (.bool false)], args := [d1, d2] }
  | _ => none }
def FnDiskSyncWrongFalsely : Prop := fnDiskSyncRow.holds Try.pinned (OpenSpec.ofChange fnDiskSyncWrong)

/-- 'laws.FnExactDiskSync': WHATEVER THE INPUT: true; the input reads as it did. -/
def fnExactDiskSyncSpec : ChangeSpec := { name := "fnExactDiskSync", fn := fun _ => fun
  | [d] => { results := [.lit (.bool true)], args := [d] }
  | _ => none }
def fnExactDiskSyncRow : OpenClaim := { program := "ytepihebkdnmppaa", sum := "41af56fe84f38753cdecc0a4a838c7b6a9e627edf831087fae530b3372c6fa0b", func := "loop.example/jetton/laws.FnExactDiskSync", spec := "fnExactDiskSync", unfollowed := true, recurses := true, apart := false }
def FnExactDiskSyncSaid : Prop := fnExactDiskSyncRow.holds Try.pinned (OpenSpec.ofChange fnExactDiskSyncSpec)

/-- ITS FALSE NEIGHBOUR: 'it returns false'. Refute it at one input. -/
def fnExactDiskSyncWrong : ChangeSpec := { name := "fnExactDiskSync", fn := fun _ => fun
  | [d] => { results := [.lit (.bool false)], args := [d] }
  | _ => none }
def FnExactDiskSyncWrongFalsely : Prop := fnExactDiskSyncRow.holds Try.pinned (OpenSpec.ofChange fnExactDiskSyncWrong)

/-- 'laws.FnExactDiskWrite': WHATEVER THE INPUT: true; the input reads as it did. -/
def fnExactDiskWriteSpec : ChangeSpec := { name := "fnExactDiskWrite", fn := fun _ => fun
  | [d1, d2, d3] => { results := [.lit (.bool true)], args := [d1, d2, d3] }
  | _ => none }
def fnExactDiskWriteRow : OpenClaim := { program := "ytepihebkdnmppaa", sum := "41af56fe84f38753cdecc0a4a838c7b6a9e627edf831087fae530b3372c6fa0b", func := "loop.example/jetton/laws.FnExactDiskWrite", spec := "fnExactDiskWrite", unfollowed := true, recurses := true, apart := false }
def FnExactDiskWriteSaid : Prop := fnExactDiskWriteRow.holds Try.pinned (OpenSpec.ofChange fnExactDiskWriteSpec)

/-- ITS FALSE NEIGHBOUR: 'it returns false'. Refute it at one input. -/
def fnExactDiskWriteWrong : ChangeSpec := { name := "fnExactDiskWrite", fn := fun _ => fun
  | [d1, d2, d3] => { results := [.lit (.bool false)], args := [d1, d2, d3] }
  | _ => none }
def FnExactDiskWriteWrongFalsely : Prop := fnExactDiskWriteRow.holds Try.pinned (OpenSpec.ofChange fnExactDiskWriteWrong)

/- THE SECOND FORM. 'bulk': how many values and letters a reading holds, each counted each time it is reached (what is shared counts as often as it is met; a slice's spare places count too). A statement '..UptoSaid' is the law's where the arguments, and the package variables that the reading takes, are together of bulk at most 1048576: NARROWER than '..Said'. Prove '..Said' where nothing that the law and all that it calls make is longer than what came in: it says more and counts as full. Else prove '..UptoSaid'. A law counts once. -/
mutual
def uptoBulk {H : Type} : DataW H → Nat
  | .lit (.string bytes) => bytes.length + 1
  | .lit _ => 1
  | .nil => 1
  | .ptr d => uptoBulk d + 1
  | .slice elems spare => uptoBulkAll elems + uptoBulkAll spare + 1
  | .agg parts => uptoBulkAll parts + 1
  | .iface _ d => uptoBulk d + 1
  | .map entries => uptoBulkEntries entries + 1
  | .held _ => 1
def uptoBulkAll {H : Type} : List (DataW H) → Nat
  | [] => 0
  | d :: r => uptoBulk d + uptoBulkAll r
def uptoBulkEntries {H : Type} : List (Lit × DataW H) → Nat
  | [] => 0
  | x :: r => uptoBulkEntry x + uptoBulkEntries r
def uptoBulkEntry {H : Type} : Lit × DataW H → Nat
  | (.string bytes, d) => bytes.length + uptoBulk d + 1
  | (_, d) => uptoBulk d + 1
 end
def uptoSmall : (H : Type) → List (DataW H) → Bool := fun _ ds => decide (uptoBulkAll ds ≤ 1048576)
def OpenSpec.upto (s : _root_.Go.ChangeSpec) : _root_.Go.OpenSpec := { _root_.Go.OpenSpec.ofChange s with cond := some uptoSmall }

/-- 'laws.FnDiskRoom', WHERE WHAT IT READS IS OF BULK AT MOST 1048576: true; the input reads as it did. -/
def fnDiskRoomUptoRow : OpenClaim := { program := "ytepihebkdnmppaa", sum := "41af56fe84f38753cdecc0a4a838c7b6a9e627edf831087fae530b3372c6fa0b", func := "loop.example/jetton/laws.FnDiskRoom", spec := "fnDiskRoom", unfollowed := true, recurses := true, apart := false, narrowed := true }
def FnDiskRoomUptoSaid : Prop := fnDiskRoomUptoRow.holds Try.pinned (OpenSpec.upto fnDiskRoomSpec)

/-- 'laws.FnDiskTwo', WHERE WHAT IT READS IS OF BULK AT MOST 1048576: true; the input reads as it did. -/
def fnDiskTwoUptoRow : OpenClaim := { program := "ytepihebkdnmppaa", sum := "41af56fe84f38753cdecc0a4a838c7b6a9e627edf831087fae530b3372c6fa0b", func := "loop.example/jetton/laws.FnDiskTwo", spec := "fnDiskTwo", unfollowed := true, recurses := true, apart := false, narrowed := true }
def FnDiskTwoUptoSaid : Prop := fnDiskTwoUptoRow.holds Try.pinned (OpenSpec.upto fnDiskTwoSpec)

/-- 'laws.FnDiskWrite', WHERE WHAT IT READS IS OF BULK AT MOST 1048576: true; the input reads as it did. -/
def fnDiskWriteUptoRow : OpenClaim := { program := "ytepihebkdnmppaa", sum := "41af56fe84f38753cdecc0a4a838c7b6a9e627edf831087fae530b3372c6fa0b", func := "loop.example/jetton/laws.FnDiskWrite", spec := "fnDiskWrite", unfollowed := true, recurses := true, apart := false, narrowed := true }
def FnDiskWriteUptoSaid : Prop := fnDiskWriteUptoRow.holds Try.pinned (OpenSpec.upto fnDiskWriteSpec)

/-- 'laws.FnDiskLeft', WHERE WHAT IT READS IS OF BULK AT MOST 1048576: true; the input reads as it did. -/
def fnDiskLeftUptoRow : OpenClaim := { program := "ytepihebkdnmppaa", sum := "41af56fe84f38753cdecc0a4a838c7b6a9e627edf831087fae530b3372c6fa0b", func := "loop.example/jetton/laws.FnDiskLeft", spec := "fnDiskLeft", unfollowed := true, recurses := true, apart := false, narrowed := true }
def FnDiskLeftUptoSaid : Prop := fnDiskLeftUptoRow.holds Try.pinned (OpenSpec.upto fnDiskLeftSpec)

/-- 'laws.FnExactDiskSet', WHERE WHAT IT READS IS OF BULK AT MOST 1048576: true; the input reads as it did. -/
def fnExactDiskSetUptoRow : OpenClaim := { program := "ytepihebkdnmppaa", sum := "41af56fe84f38753cdecc0a4a838c7b6a9e627edf831087fae530b3372c6fa0b", func := "loop.example/jetton/laws.FnExactDiskSet", spec := "fnExactDiskSet", unfollowed := true, recurses := true, apart := false, narrowed := true }
def FnExactDiskSetUptoSaid : Prop := fnExactDiskSetUptoRow.holds Try.pinned (OpenSpec.upto fnExactDiskSetSpec)

/-- 'laws.FnDiskSync', WHERE WHAT IT READS IS OF BULK AT MOST 1048576: true; the input reads as it did. -/
def fnDiskSyncUptoRow : OpenClaim := { program := "ytepihebkdnmppaa", sum := "41af56fe84f38753cdecc0a4a838c7b6a9e627edf831087fae530b3372c6fa0b", func := "loop.example/jetton/laws.FnDiskSync", spec := "fnDiskSync", unfollowed := true, recurses := true, apart := false, narrowed := true }
def FnDiskSyncUptoSaid : Prop := fnDiskSyncUptoRow.holds Try.pinned (OpenSpec.upto fnDiskSyncSpec)

/-- 'laws.FnExactDiskSync', WHERE WHAT IT READS IS OF BULK AT MOST 1048576: true; the input reads as it did. -/
def fnExactDiskSyncUptoRow : OpenClaim := { program := "ytepihebkdnmppaa", sum := "41af56fe84f38753cdecc0a4a838c7b6a9e627edf831087fae530b3372c6fa0b", func := "loop.example/jetton/laws.FnExactDiskSync", spec := "fnExactDiskSync", unfollowed := true, recurses := true, apart := false, narrowed := true }
def FnExactDiskSyncUptoSaid : Prop := fnExactDiskSyncUptoRow.holds Try.pinned (OpenSpec.upto fnExactDiskSyncSpec)

/-- 'laws.FnExactDiskWrite', WHERE WHAT IT READS IS OF BULK AT MOST 1048576: true; the input reads as it did. -/
def fnExactDiskWriteUptoRow : OpenClaim := { program := "ytepihebkdnmppaa", sum := "41af56fe84f38753cdecc0a4a838c7b6a9e627edf831087fae530b3372c6fa0b", func := "loop.example/jetton/laws.FnExactDiskWrite", spec := "fnExactDiskWrite", unfollowed := true, recurses := true, apart := false, narrowed := true }
def FnExactDiskWriteUptoSaid : Prop := fnExactDiskWriteUptoRow.holds Try.pinned (OpenSpec.upto fnExactDiskWriteSpec)

end Rows
end Go.Proofs.Ytepihebkdnmppaa
