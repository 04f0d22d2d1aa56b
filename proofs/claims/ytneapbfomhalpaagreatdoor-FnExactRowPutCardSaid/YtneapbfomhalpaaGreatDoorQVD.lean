/- Values, with no program in sight: what a value holds, and when it is ok. -/
import Derived.Test.YtneapbfomhalpaaGreatDoorQD
set_option linter.unusedVariables false
set_option linter.unusedSimpArgs false
namespace Go.Pv
/-- A decimal, and a value, with their fields apart. -/
structure Dc where
  neg : Bool
  limbs : List Int
  scale : Int
structure Vl where
  kind : Int
  yes : Bool
  num : Dc
  day : Int
  months : Int
  days : Int
  text : ByteArray
abbrev cDc (d : Dc) : List PV := [.b (.bool d.neg), .val d.limbs.length (d.limbs.map vI), vI d.scale]
abbrev vDc (d : Dc) : PV := .agg (cDc d)
abbrev cBg (d : Dc) : List PV := [.b (.bool d.neg), .val d.limbs.length (d.limbs.map vI)]
abbrev vBg (d : Dc) : PV := .agg (cBg d)
abbrev cVl (v : Vl) : List PV := [vI v.kind, .b (.bool v.yes), .b (.bool v.num.neg), .val v.num.limbs.length (v.num.limbs.map vI), vI v.num.scale, vI v.day, vI v.months, vI v.days, vS v.text]
abbrev vVl (v : Vl) : PV := .agg (cVl v)
def zeroD (d : Dc) : Bool := !d.neg && (decide (d.limbs.length = 0) && decide (d.scale = 0))
def dc0 : Dc := ⟨false, [], 0⟩
def vl0 : Vl := ⟨0, false, dc0, 0, 0, 0, ByteArray.empty⟩
/-- All fields are nothing but the kind's own. -/
def bareV (v : Vl) : Bool :=
  if (v.kind ≠ 1 ∧ v.yes = true) ∨ (v.kind ≠ 2 ∧ zeroD v.num = false) then false
  else if v.kind ≠ 4 ∧ (v.months ≠ 0 ∨ v.days ≠ 0) then false
  else decide ((v.kind = 3 ∨ v.day = 0) ∧ (v.kind = 5 ∨ v.text = ByteArray.empty))
end Go.Pv
