/- What the statements' readers find of disks and stores, and what is laid; common to the store's laws. -/
import Derived.Test.YtknciobaifdafaaGreatDoorCards
import Derived.Test.YtknciobaifdafaaGreatDoorTie
import Derived.Test.YtknciobaifdafaaGreatDoorQD
import Derived.Test.YtknciobaifdafaaGreatDoorQT4
import Derived.Test.YtknciobaifdafaaGreatDoorQW1
set_option linter.unusedVariables false
set_option linter.unusedSimpArgs false
set_option maxRecDepth 100000
namespace Go.Proofs.YtknciobaifdafaaGreatDoor.T
open Go Go.Pv Go.ChangeShapes Go.WideShapes Go.ChangeAt Go.RowKit
theorem flat_vS (l : List ByteArray) : (l.flatMap fun s => [vS s]) = l.map vS := by
  induction l with
  | nil => rfl
  | cons x l ih => rw [List.flatMap_cons, ih]; rfl
theorem opensP_i64 {P : Program} {t : TypeId} (ht : P.underlying t = some (.int .i64)) (hc : P.cellsOf t = 1) : OpensP P t (fun n : Int => [.b (.int .i64 n)]) 1 (fun n => -9223372036854775808 ≤ n ∧ n ≤ 9223372036854775807) := by
  refine ⟨hc, fun {H enc w base sp held fuel cs y} h => ?_⟩
  cases fuel with
  | zero => simp [DataW.trod] at h
  | succ m =>
    unfold DataW.trod at h
    rw [ht] at h
    split at h <;> simp_all
    obtain ⟨⟨h1, h2⟩, _⟩ := h
    subst h1
    refine ⟨_, .one (.b _), ?_⟩
    rename_i hk _
    rw [← hk] at h2
    unfold Lit.wf at h2
    rw [Bool.and_eq_true] at h2
    exact ⟨of_decide_eq_true h2.1, of_decide_eq_true h2.2⟩
theorem strsO : OpensP Tryz.prog 22 (fun l : List ByteArray => [.val l.length (l.map vS)]) 1 (fun l => l.length ≤ maxLen ∧ ∀ x ∈ l, x.size ≤ maxLen) :=
  opensP_iso (opensP_slice Tryz.underlying22 (by kernel_rfl) (by decide) (opensP_string Tryz.underlying9 (by kernel_rfl))) id id (fun _ => rfl) (fun l => by rw [id, flat_vS])
theorem waitO : OpensP Tryz.prog 150 cWt 2 (fun x => True ∧ x.text.size ≤ maxLen) :=
  opensP_iso (opensP_struct Tryz.underlying150 (by kernel_rfl) (fieldsP_cons (opensP_int Tryz.underlying3 (by kernel_rfl)) rfl (fieldsP_one (opensP_string Tryz.underlying9 (by kernel_rfl)) rfl))) (fun x : Wt => (x.cell, x.text)) (fun p => ⟨p.1, p.2⟩) (fun _ => rfl) (fun _ => rfl)
theorem waitsO : OpensP Tryz.prog 23 (fun l : List Wt => [.val l.length (l.flatMap cWt)]) 1 (fun l => l.length ≤ maxLen ∧ ∀ x ∈ l, (True ∧ x.text.size ≤ maxLen)) :=
  opensP_slice Tryz.underlying23 (by kernel_rfl) (by decide) waitO
def cDk (d : Dk) : List PV := [.val d.cells.length (d.cells.map vS), .val d.waits.length (d.waits.flatMap cWt), vI d.room, vI d.left]
def DkG (d : Dk) : Prop := (d.cells.length ≤ maxLen ∧ ∀ x ∈ d.cells, x.size ≤ maxLen) ∧ (d.waits.length ≤ maxLen ∧ ∀ x ∈ d.waits, (True ∧ x.text.size ≤ maxLen)) ∧ (-9223372036854775808 ≤ d.room ∧ d.room ≤ 9223372036854775807) ∧ (-9223372036854775808 ≤ d.left ∧ d.left ≤ 9223372036854775807)
theorem diskO : OpensP Tryz.prog 25 cDk 4 DkG :=
  opensP_iso (opensP_struct Tryz.underlying25 (by kernel_rfl) (fieldsP_cons strsO rfl (fieldsP_cons waitsO rfl (fieldsP_cons (opensP_i64 Tryz.underlying3 (by kernel_rfl)) rfl (fieldsP_one (opensP_i64 Tryz.underlying3 (by kernel_rfl)) rfl)))))
    (fun d : Dk => (d.cells, d.waits, d.room, d.left)) (fun p => ⟨p.1, p.2.1, p.2.2.1, p.2.2.2⟩) (fun _ => rfl) (fun _ => rfl)
def cStor (s : Stor) : List PV := [.val s.disk.cells.length (s.disk.cells.map vS), .val s.disk.waits.length (s.disk.waits.flatMap cWt), vI s.disk.room, vI s.disk.left, vI s.turn, vI s.tries, vI s.next, .val s.pages.length (s.pages.map vS)]
def StG (s : Stor) : Prop := DkG s.disk ∧ (-9223372036854775808 ≤ s.turn ∧ s.turn ≤ 9223372036854775807) ∧ (-9223372036854775808 ≤ s.tries ∧ s.tries ≤ 9223372036854775807) ∧ (-9223372036854775808 ≤ s.next ∧ s.next ≤ 9223372036854775807) ∧ (s.pages.length ≤ maxLen ∧ ∀ x ∈ s.pages, x.size ≤ maxLen)
theorem storeO : OpensP Tryz.prog 27 cStor 8 StG :=
  opensP_iso (opensP_struct Tryz.underlying27 (by kernel_rfl) (fieldsP_cons diskO rfl (fieldsP_cons (opensP_i64 Tryz.underlying3 (by kernel_rfl)) rfl (fieldsP_cons (opensP_i64 Tryz.underlying3 (by kernel_rfl)) rfl (fieldsP_cons (opensP_i64 Tryz.underlying3 (by kernel_rfl)) rfl (fieldsP_one strsO rfl))))))
    (fun s : Stor => (s.disk, s.turn, s.tries, s.next, s.pages)) (fun p => ⟨p.1, p.2.1, p.2.2.1, p.2.2.2.1, p.2.2.2.2⟩) (fun _ => rfl) (fun _ => rfl)
theorem RVs_one {P : Program} {φ : Phi} {D : Nat → Prop} {w : World} {x : PV} {v : Value} (h : RV P φ D w x v) : RVs P φ D w [x] #[v] := ⟨rfl, fun j y hy => by
  cases j with
  | zero => simp at hy; subst hy; exact h
  | succ j => simp at hy⟩
theorem RVs_three {P : Program} {φ : Phi} {D : Nat → Prop} {w : World} {x y z : PV} {u v r : Value} (h : RV P φ D w x u) (h2 : RV P φ D w y v) (h3 : RV P φ D w z r) : RVs P φ D w [x, y, z] #[u, v, r] := ⟨rfl, fun j q hq => by
  rcases j with _ | _ | _ | j
  · simp at hq; subst hq; exact h
  · simp at hq; subst hq; exact h2
  · simp at hq; subst hq; exact h3
  · simp at hq⟩
theorem okWideP_int {P : Program} {w : World} {r : Reach} {base : Nat} {t : TypeId} {v : Value} {k : IntKind} (ht : P.underlying t = some (.int k)) (h : Value.okWide P w r base t v) : ∃ n, v = .int k n := by
  cases v <;> simp_all [Value.okWide, Cell.okWide, Cell.ok]
theorem maxLen_le : maxLen ≤ 9223372036854775807 := by decide
theorem getD_le {l : List ByteArray} (h : ∀ x ∈ l, x.size ≤ maxLen) (k : Nat) : (l.getD k ByteArray.empty).size ≤ 9223372036854775807 := by
  have := maxLen_le
  rcases Nat.lt_or_ge k l.length with hk | hk
  · have := h _ (mem_getD (d := ByteArray.empty) hk); omega
  · rw [List.getD_eq_getElem?_getD, List.getElem?_eq_none hk]; exact Nat.zero_le _
theorem getDW_le {l : List Wt} (h : ∀ x ∈ l, (True ∧ x.text.size ≤ maxLen)) (k : Nat) : (l.getD k wt0).text.size ≤ 9223372036854775807 := by
  have := maxLen_le
  rcases Nat.lt_or_ge k l.length with hk | hk
  · have := (h _ (mem_getD (d := wt0) hk)).2; omega
  · rw [List.getD_eq_getElem?_getD, List.getElem?_eq_none hk]; exact Nat.zero_le _
/-- What a reader finds of a store is no longer than a machine's memory. -/
def StIn (s : Stor) : Prop := DkIn s.disk ∧ s.pages.length ≤ 9223372036854775807 ∧ ∀ k, (s.pages.getD k ByteArray.empty).size ≤ 9223372036854775807
theorem DkG.in {d : Dk} (h : DkG d) : DkIn d := by
  have := maxLen_le
  obtain ⟨⟨h1, h2⟩, ⟨h3, h4⟩, _⟩ := h
  exact ⟨by omega, getD_le h2, by omega, getDW_le h4⟩
theorem DkG.lim {d : Dk} (h : DkG d) : d.room ≤ 9223372036854775807 ∧ d.left ≤ 9223372036854775807 := ⟨h.2.2.1.2, h.2.2.2.2⟩
theorem StG.lim {s : Stor} (h : StG s) : s.disk.room ≤ 9223372036854775807 ∧ s.disk.left ≤ 9223372036854775807 := h.1.lim
theorem StG.in {s : Stor} (h : StG s) : StIn s := by
  have := maxLen_le
  obtain ⟨⟨⟨h1, h2⟩, ⟨h3, h4⟩, _⟩, _, _, _, h5, h6⟩ := h
  exact ⟨⟨by omega, getD_le h2, by omega, getDW_le h4⟩, by omega, getD_le h6⟩
abbrev laidL : List (String × DataW Unit) := [("math/bits.deBruijn32tab", Rows.laid_math_bits_deBruijn32tab), ("math/bits.deBruijn64tab", Rows.laid_math_bits_deBruijn64tab), ("internal/strconv.uint64pow10", Rows.laid_internal_strconv_uint64pow10), ("unicode/utf8.acceptRanges", Rows.laid_unicode_utf8_acceptRanges), ("strconv.ErrRange", Rows.laid_strconv_ErrRange), ("strconv.ErrSyntax", Rows.laid_strconv_ErrSyntax), ("unicode/utf8.first", Rows.laid_unicode_utf8_first)]
theorem laid_plain : (laidL.all fun x => x.2.handleName?.isNone) = true := by kernel_rfl
theorem laid_met (os : Os) (args : Array Value) : laidMetH Tryz.prog laidL ((World.laidAll Tryz.prog os laidL).forCall (fun _ _ => 0) ⟨#[], args, []⟩).memory := by
  rw [MakeChecks.laidMetH_plain _ _ _ laid_plain]
  exact laidMet_laidAll _ (by kernel_rfl) (by kernel_rfl)
end Go.Proofs.YtknciobaifdafaaGreatDoor.T

/- What the statements' readers find of lists of pages. -/
set_option linter.unusedVariables false
set_option linter.unusedSimpArgs false
set_option maxRecDepth 100000
namespace Go.Proofs.YtknciobaifdafaaGreatDoor.T
open Go Go.Pv Go.ChangeShapes Go.WideShapes Go.ChangeAt Go.RowKit
theorem okWideP_slice {P : Program} {w : World} {r : Reach} {base : Nat} {t e : TypeId} {v : Value} (ht : P.underlying t = some (.slice e)) (h : Value.okWide P w r base t v) : v.cells.toList = [v] := by
  cases v <;> simp_all [Value.okWide, Cell.okWide, Cell.ok, Value.cells]
/-- A parameter of one cell. -/
theorem opensP_arg1 {P : Program} {t : TypeId} {α : Type} {f : α → List PV} {sz : Nat} {G : α → Prop} (h : OpensP P t f sz G) {g : α → PV} (hg : ∀ x, f x = [g x]) {H : Type} {enc : TypeId × Value → H} {w : World} {base : Nat} {sp : Nat → Bool} {held : Bool} {v : Value} {y : DataW H} {ps : List MemPlace} (hv : v.cells.toList = [v]) (hy : DataW.Trod enc P w base sp held t v y ps) :
    ∃ x, RV P noPhi (fun b => b < w.heap.size) w (g x) v ∧ G x := by
  obtain ⟨fuel, hf⟩ := hy
  obtain ⟨x, h1, h2, h3⟩ := h.tells hf
  rw [hv, hg] at h1
  exact ⟨x, h1.2 0 (g x) v rfl rfl, h3⟩
theorem pageO : OpensP Tryz.prog 72 cWt 2 (fun x => True ∧ x.text.size ≤ maxLen) :=
  opensP_iso (opensP_struct Tryz.underlying72 (by kernel_rfl) (fieldsP_cons (opensP_int Tryz.underlying3 (by kernel_rfl)) rfl (fieldsP_one (opensP_string Tryz.underlying9 (by kernel_rfl)) rfl))) (fun x : Wt => (x.cell, x.text)) (fun p => ⟨p.1, p.2⟩) (fun _ => rfl) (fun _ => rfl)
theorem pagesO : OpensP Tryz.prog 28 (fun l : List Wt => [.val l.length (l.flatMap cWt)]) 1 (fun l => l.length ≤ maxLen ∧ ∀ x ∈ l, (True ∧ x.text.size ≤ maxLen)) :=
  opensP_slice Tryz.underlying28 (by kernel_rfl) (by decide) pageO
theorem RVs_two {P : Program} {φ : Phi} {D : Nat → Prop} {w : World} {x y : PV} {u v : Value} (h : RV P φ D w x u) (h2 : RV P φ D w y v) : RVs P φ D w [x, y] #[u, v] := ⟨rfl, fun j q hq => by
  rcases j with _ | _ | j
  · simp at hq; subst hq; exact h
  · simp at hq; subst hq; exact h2
  · simp at hq⟩
end Go.Proofs.YtknciobaifdafaaGreatDoor.T
