/- What the statements' readers find of disks and stores, and what is laid; common to the store's laws. -/
import Derived.Test.YtknciobaifdafaaGreatDoorCards
import Derived.Test.YtknciobaifdafaaGreatDoorTie
import Derived.Test.YtknciobaifdafaaGreatDoorQD
import Derived.Test.YtknciobaifdafaaGreatDoorQT
import Derived.Test.YtknciobaifdafaaGreatDoorQW1
import Derived.Test.YtknciobaifdafaaGreatDoorQGN
set_option linter.unusedVariables false
set_option linter.unusedSimpArgs false
set_option maxRecDepth 100000
namespace Go.Proofs.YtknciobaifdafaaGreatDoor.T
open Go Go.Pv Go.ChangeShapes Go.WideShapes Go.ChangeAt Go.RowKit
def DkG (d : Dk) : Prop := (d.cells.length ≤ maxLen ∧ ∀ x ∈ d.cells, x.size ≤ maxLen) ∧ (d.waits.length ≤ maxLen ∧ ∀ x ∈ d.waits, (True ∧ x.text.size ≤ maxLen)) ∧ (-9223372036854775808 ≤ d.room ∧ d.room ≤ 9223372036854775807) ∧ (-9223372036854775808 ≤ d.left ∧ d.left ≤ 9223372036854775807)
def StG (s : Stor) : Prop := DkG s.disk ∧ (-9223372036854775808 ≤ s.turn ∧ s.turn ≤ 9223372036854775807) ∧ (-9223372036854775808 ≤ s.tries ∧ s.tries ≤ 9223372036854775807) ∧ (-9223372036854775808 ≤ s.next ∧ s.next ≤ 9223372036854775807) ∧ (s.pages.length ≤ maxLen ∧ ∀ x ∈ s.pages, x.size ≤ maxLen)
theorem yR {P : Program} {φ : Phi} {D : Nat → Prop} {w : World} {x : PV} {v : Value} (h : RV P φ D w x v) : RVs P φ D w [x] #[v] := ⟨rfl, fun j y hy => by
  cases j with
  | zero => simp at hy; subst hy; exact h
  | succ j => simp at hy⟩
theorem dR : maxLen ≤ 9223372036854775807 := by decide
theorem Ey {l : List ByteArray} (h : ∀ x ∈ l, x.size ≤ maxLen) (k : Nat) : (l.getD k ByteArray.empty).size ≤ 9223372036854775807 := by
  have := dR
  rcases Nat.lt_or_ge k l.length with hk | hk
  · have := h _ (fV (d := ByteArray.empty) hk); omega
  · rw [List.getD_eq_getElem?_getD, List.getElem?_eq_none hk]; exact Nat.zero_le _
theorem G7 {l : List Wt} (h : ∀ x ∈ l, (True ∧ x.text.size ≤ maxLen)) (k : Nat) : (l.getD k wt0).text.size ≤ 9223372036854775807 := by
  have := dR
  rcases Nat.lt_or_ge k l.length with hk | hk
  · have := (h _ (fV (d := wt0) hk)).2; omega
  · rw [List.getD_eq_getElem?_getD, List.getElem?_eq_none hk]; exact Nat.zero_le _
def StIn (s : Stor) : Prop := DkIn s.disk ∧ s.pages.length ≤ 9223372036854775807 ∧ ∀ k, (s.pages.getD k ByteArray.empty).size ≤ 9223372036854775807
theorem DkG.in {d : Dk} (h : DkG d) : DkIn d := by
  have := dR
  obtain ⟨⟨h1, h2⟩, ⟨h3, h4⟩, _⟩ := h
  exact ⟨by omega, Ey h2, by omega, G7 h4⟩
theorem DkG.lim {d : Dk} (h : DkG d) : d.room ≤ 9223372036854775807 ∧ d.left ≤ 9223372036854775807 := ⟨h.2.2.1.2, h.2.2.2.2⟩
theorem StG.lim {s : Stor} (h : StG s) : s.disk.room ≤ 9223372036854775807 ∧ s.disk.left ≤ 9223372036854775807 := h.1.lim
theorem StG.in {s : Stor} (h : StG s) : StIn s := by
  have := dR
  obtain ⟨⟨⟨h1, h2⟩, ⟨h3, h4⟩, _⟩, _, _, _, h5, h6⟩ := h
  exact ⟨⟨by omega, Ey h2, by omega, G7 h4⟩, by omega, Ey h6⟩
abbrev eY : List (String × DataW Unit) := [("math/bits.deBruijn32tab", Rows.laid_math_bits_deBruijn32tab), ("math/bits.deBruijn64tab", Rows.laid_math_bits_deBruijn64tab), ("internal/strconv.uint64pow10", Rows.laid_internal_strconv_uint64pow10), ("unicode/utf8.acceptRanges", Rows.laid_unicode_utf8_acceptRanges), ("strconv.ErrRange", Rows.laid_strconv_ErrRange), ("strconv.ErrSyntax", Rows.laid_strconv_ErrSyntax), ("unicode/utf8.first", Rows.laid_unicode_utf8_first)]
theorem iQ : (eY.all fun x => x.2.handleName?.isNone) = true := by kernel_rfl
theorem laid_met (os : Os) (args : Array Value) : laidMetH Tryz.prog eY ((World.laidAll Tryz.prog os eY).forCall (fun _ _ => 0) ⟨#[], args, []⟩).memory := by
  rw [MakeChecks.laidMetH_plain _ _ _ iQ]
  exact laidMet_laidAll _ (by kernel_rfl) (by kernel_rfl)
end Go.Proofs.YtknciobaifdafaaGreatDoor.T
set_option linter.unusedVariables false
set_option linter.unusedSimpArgs false
set_option maxRecDepth 100000
namespace Go.Proofs.YtknciobaifdafaaGreatDoor.T
open Go Go.Pv Go.ChangeShapes Go.WideShapes Go.ChangeAt Go.RowKit
theorem dD {P : Program} {w : World} {r : Reach} {base : Nat} {t e : TypeId} {v : Value} (ht : P.underlying t = some (.slice e)) (h : Value.okWide P w r base t v) : v.cells.toList = [v] := by
  cases v <;> simp_all [Value.okWide, Cell.okWide, Cell.ok, Value.cells]
theorem eu {P : Program} {t : TypeId} {α : Type} {f : α → List PV} {sz : Nat} {G : α → Prop} (h : OpensP P t f sz G) {g : α → PV} (hg : ∀ x, f x = [g x]) {H : Type} {enc : TypeId × Value → H} {w : World} {base : Nat} {sp : Nat → Bool} {held : Bool} {v : Value} {y : DataW H} {ps : List MemPlace} (hv : v.cells.toList = [v]) (hy : DataW.Trod enc P w base sp held t v y ps) :
    ∃ x, RV P qi (fun b => b < w.heap.size) w (g x) v ∧ G x := by
  obtain ⟨fuel, hf⟩ := hy
  obtain ⟨x, h1, h2, h3⟩ := h.tells hf
  rw [hv, hg] at h1
  exact ⟨x, h1.2 0 (g x) v rfl rfl, h3⟩
theorem Ez {P : Program} {φ : Phi} {D : Nat → Prop} {w : World} {x y : PV} {u v : Value} (h : RV P φ D w x u) (h2 : RV P φ D w y v) : RVs P φ D w [x, y] #[u, v] := ⟨rfl, fun j q hq => by
  rcases j with _ | _ | j
  · simp at hq; subst hq; exact h
  · simp at hq; subst hq; exact h2
  · simp at hq⟩
end Go.Proofs.YtknciobaifdafaaGreatDoor.T
set_option linter.unusedVariables false
set_option linter.unusedSimpArgs false
set_option maxRecDepth 100000
namespace Go.Proofs.YtknciobaifdafaaGreatDoor.T
open Go Go.Pv Go.ChangeShapes Go.WideShapes Go.ChangeAt Go.RowKit
theorem Lj {P : Program} {t : TypeId} (ht : P.underlying t = some (.int .u8)) (hc : P.cellsOf t = 1) : OpensP P t (fun n : Int => [vU8 n]) 1 (fun n => 0 ≤ n ∧ n ≤ 255) := by
  refine ⟨hc, fun {H enc w base sp held fuel cs y} h => ?_⟩
  cases fuel with
  | zero => simp [DataW.trod] at h
  | succ m =>
    unfold DataW.trod at h
    rw [ht] at h
    split at h <;> simp_all
    rename_i hk
    subst hk
    obtain ⟨⟨h1, h2⟩, _⟩ := h
    subst h1
    refine ⟨_, .one (.b _), ?_⟩
    unfold Lit.wf at h2
    rw [Bool.and_eq_true] at h2
    exact ⟨of_decide_eq_true h2.1, of_decide_eq_true h2.2⟩
theorem O9 (l : List Int) : (l.flatMap fun n => [vU8 n]) = l.map vU8 := by
  induction l with
  | nil => rfl
  | cons x l ih => rw [List.flatMap_cons, ih]; rfl
theorem tV : OpensP Tryz.prog 46 (fun l : List Int => [.val l.length (l.map vU8)]) 1 (fun l => l.length ≤ maxLen ∧ ∀ x ∈ l, 0 ≤ x ∧ x ≤ 255) :=
  IQ (Es Tryz.underlying46 (by kernel_rfl) (by decide) (Lj Tryz.underlying5 (by kernel_rfl))) id id (fun _ => rfl) (fun l => by rw [id, O9])
theorem lg {l : List Int} (h : ∀ x ∈ l, 0 ≤ x ∧ x ≤ 255) (k : Nat) : 0 ≤ l.getD k 0 ∧ l.getD k 0 ≤ 255 := by
  rcases Nat.lt_or_ge k l.length with hk | hk
  · exact h _ (getD_mem hk)
  · rw [List.getD_eq_getElem?_getD, List.getElem?_eq_none hk]; exact ⟨Int.le_refl _, by decide⟩
end Go.Proofs.YtknciobaifdafaaGreatDoor.T
