/- What the store's functions do to disks and stores, with no program in sight. -/
import Derived.Test.YtknciobaifdafaaGreatDoorQD
set_option linter.unusedVariables false
set_option linter.unusedSimpArgs false
namespace Go.Pv
def writeD (d : Dk) (cell : Int) (text : ByteArray) : Dk × Bool :=
  if d.left = 0 then (d, true)
  else if wtOk ⟨cell, text⟩ = false ∨ d.room = 0 ∨ 100 ≤ d.waits.length then (d, false)
  else (⟨d.cells, d.waits ++ [⟨cell, text⟩], lessOf d.room, lessOf d.left⟩, true)
def syncD (d : Dk) : Dk := if d.left = 0 then d else ⟨putPs d.cells d.waits, [], d.room, lessOf d.left⟩
def setDisk (s : Stor) (d : Dk) : Stor := ⟨d, s.turn, s.tries, s.next, s.pages⟩
def endS (was next : Stor) (d : Dk) : Stor × Int := if d.left = 0 then (setDisk was d, 3) else (setDisk next d, 0)
def refusedS (was : Stor) (d : Dk) (tried : Int) : Stor × Int := if (syncD d).left = 0 then (setDisk was (syncD d), 3) else (⟨syncD d, was.turn, was.tries + tried, was.next, was.pages⟩, 2)
/-- The pages that differ from their cells are written, from place i on, k of them. -/
def restW (pages : List ByteArray) : Nat → Nat → Dk → Dk × Bool
  | 0, _, d => (d, true)
  | k + 1, i, d =>
    if d.cells.getD (2 + i) ByteArray.empty = pages.getD i ByteArray.empty then restW pages k (i + 1) d
    else if (writeD d (2 + i) (pages.getD i ByteArray.empty)).2 = true then restW pages k (i + 1) (writeD d (2 + i) (pages.getD i ByteArray.empty)).1 else (d, false)
def restX (s : Stor) (d : Dk) : Stor × Int :=
  if (writeD d ((s.turn + 1).tmod 2) (headB (s.turn + 1))).2 = true then endS s ⟨s.disk, s.turn + 1, 0, 0, s.pages⟩ (syncD (writeD d ((s.turn + 1).tmod 2) (headB (s.turn + 1))).1)
  else refusedS s d 0
def restS (s : Stor) : Stor × Int :=
  if 99999 ≤ s.turn then (s, 4)
  else if (restW s.pages 20 0 s.disk).2 = true then restX s (syncD (restW s.pages 20 0 s.disk).1)
  else refusedS s (restW s.pages 20 0 s.disk).1 0
theorem writeD0 {d : Dk} (h : d.left = 0) (cell : Int) (text : ByteArray) : writeD d cell text = (d, true) := if_pos h
theorem writeD1 {d : Dk} (h : ¬ d.left = 0) {cell : Int} {text : ByteArray} (h1 : wtOk ⟨cell, text⟩ = false ∨ d.room = 0 ∨ 100 ≤ d.waits.length) : writeD d cell text = (d, false) := by unfold writeD; rw [if_neg h, if_pos h1]
theorem writeD2 {d : Dk} (h : ¬ d.left = 0) {cell : Int} {text : ByteArray} (h1 : ¬ (wtOk ⟨cell, text⟩ = false ∨ d.room = 0 ∨ 100 ≤ d.waits.length)) : writeD d cell text = (⟨d.cells, d.waits ++ [⟨cell, text⟩], lessOf d.room, lessOf d.left⟩, true) := by unfold writeD; rw [if_neg h, if_neg h1]
theorem writeD_no {d : Dk} {cell : Int} {text : ByteArray} (h : (writeD d cell text).2 = false) : (writeD d cell text).1 = d := by
  unfold writeD at h ⊢
  split
  · rfl
  · split
    · rfl
    · rename_i h1 h2
      rw [if_neg h1, if_neg h2] at h
      cases h
theorem putPs_succ {l : List ByteArray} {ws : List Wt} {i : Nat} (h : i < ws.length) : putPs l (ws.take (i + 1)) = (putPs l (ws.take i)).set (ws.getD i wt0).cell.toNat (ws.getD i wt0).text := by
  unfold putPs
  rw [List.take_add_one, List.getElem?_eq_getElem h, List.foldl_append, List.getD_eq_getElem?_getD, List.getElem?_eq_getElem h]
  rfl
/-- A disk whose cells and what waits are within bounds. -/
structure DkB (d : Dk) : Prop where
  cells : d.cells.length = 42
  waits : d.waits.length ≤ 100
  ok : ∀ x ∈ d.waits, 0 ≤ x.cell ∧ x.cell ≤ 41
  room : -9223372036854775807 ≤ d.room ∧ d.room ≤ 9223372036854775807
  left : -9223372036854775807 ≤ d.left ∧ d.left ≤ 9223372036854775807
theorem wtOk_in {x : Wt} (h : wtOk x = true) : 0 ≤ x.cell ∧ x.cell ≤ 41 := by
  unfold wtOk at h
  rw [Bool.and_eq_true] at h
  exact of_decide_eq_true h.1
theorem lessOf_in {n : Int} (h : -9223372036854775807 ≤ n ∧ n ≤ 9223372036854775807) : -9223372036854775807 ≤ lessOf n ∧ lessOf n ≤ 9223372036854775807 := by unfold lessOf; split <;> omega
theorem writeD_b {d : Dk} (h : DkB d) (cell : Int) (text : ByteArray) : DkB (writeD d cell text).1 := by
  unfold writeD
  split
  · exact h
  · split
    · exact h
    · rename_i hn
      simp only [not_or] at hn
      refine ⟨h.cells, by simp; omega, fun x hx => ?_, lessOf_in h.room, lessOf_in h.left⟩
      rcases List.mem_append.1 hx with hx | hx
      · exact h.ok x hx
      · rw [List.mem_singleton.1 hx]
        exact wtOk_in (by simpa using hn.1)
theorem syncD_b {d : Dk} (h : DkB d) : DkB (syncD d) := by
  unfold syncD
  split
  · exact h
  · exact ⟨by dsimp only; rw [putPs_length]; exact h.cells, by simp, by simp, h.room, lessOf_in h.left⟩
theorem restW_b {pages : List ByteArray} : ∀ (k i : Nat) (d : Dk), DkB d → DkB (restW pages k i d).1
  | 0, _, d, h => h
  | k + 1, i, d, h => by
    unfold restW
    split
    · exact restW_b k (i + 1) d h
    · split
      · exact restW_b k (i + 1) _ (writeD_b h _ _)
      · exact h
end Go.Pv
