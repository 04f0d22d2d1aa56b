/- What the statements' readers find of values, types and rows. -/
import Derived.Test.YtneapbfomhalpaaGreatDoorCards
import Derived.Test.YtneapbfomhalpaaGreatDoorTie
import Derived.Test.YtneapbfomhalpaaGreatDoorQY6
import Derived.Test.YtneapbfomhalpaaGreatDoorQWC
set_option linter.unusedVariables false
set_option linter.unusedSimpArgs false
set_option maxRecDepth 100000
namespace Go.Proofs.YtneapbfomhalpaaGreatDoor.T
open Go Go.Pv Go.ChangeShapes Go.WideShapes Go.ChangeAt Go.RowKit
theorem flatM_vI (l : List Int) : (l.flatMap fun s => [PV.b (.int .i64 s)]) = l.map vI := by
  induction l with
  | nil => rfl
  | cons x l ih => rw [List.flatMap_cons, ih]; rfl
theorem opensP_bool {P : Program} {t : TypeId} (ht : P.underlying t = some .bool) (hc : P.cellsOf t = 1) : OpensP P t (fun n : Bool => [.b (.bool n)]) 1 (fun _ => True) := by
  refine ⟨hc, fun {H enc w base sp held fuel cs y} h => ?_⟩
  cases fuel with
  | zero => simp [DataW.trod] at h
  | succ m =>
    unfold DataW.trod at h
    rw [ht] at h
    split at h <;> simp_all [-Bool.exists_bool]
    exact ⟨_, .one (.b _)⟩
theorem opensP_i64 {P : Program} {t : TypeId} (ht : P.underlying t = some (.int .i64)) (hc : P.cellsOf t = 1) : OpensP P t (fun n : Int => [.b (.int .i64 n)]) 1 (fun n => -9223372036854775808 ≤ n ∧ n ≤ 9223372036854775807) := by
  refine ⟨hc, fun {H enc w base sp held fuel cs y} h => ?_⟩
  cases fuel with
  | zero => simp [DataW.trod] at h
  | succ m =>
    unfold DataW.trod at h
    rw [ht] at h
    split at h <;> simp_all
    obtain ⟨⟨h1, h2⟩, _⟩ := h
    subst h1
    refine ⟨_, .one (.b _), ?_⟩
    rename_i hk _
    rw [← hk] at h2
    unfold Lit.wf at h2
    rw [Bool.and_eq_true] at h2
    exact ⟨of_decide_eq_true h2.1, of_decide_eq_true h2.2⟩
abbrev I64 (n : Int) : Prop := -9223372036854775808 ≤ n ∧ n ≤ 9223372036854775807
theorem intO : OpensP Tryz.prog 3 (fun n : Int => [.b (.int .i64 n)]) 1 I64 := opensP_i64 Tryz.underlying3 (by kernel_rfl)
theorem intsO : OpensP Tryz.prog 22 (fun l : List Int => [.val l.length (l.map vI)]) 1 (fun l => l.length ≤ maxLen ∧ ∀ x ∈ l, I64 x) :=
  opensP_iso (opensP_slice Tryz.underlying22 (by kernel_rfl) (by decide) intO) id id (fun _ => rfl) (fun l => by rw [id, flatM_vI])
theorem bigO : OpensP Tryz.prog 24 (fun b : Bool × List Int => [.b (.bool b.1), .val b.2.length (b.2.map vI)]) 2 (fun b => True ∧ (b.2.length ≤ maxLen ∧ ∀ x ∈ b.2, I64 x)) :=
  opensP_iso (opensP_struct Tryz.underlying24 (by kernel_rfl) (fieldsP_cons (opensP_bool Tryz.underlying4 (by kernel_rfl)) rfl (fieldsP_one intsO rfl))) (fun b : Bool × List Int => b) id (fun _ => rfl) (fun _ => rfl)
def DcG (d : Dc) : Prop := (True ∧ (d.limbs.length ≤ maxLen ∧ ∀ x ∈ d.limbs, I64 x)) ∧ I64 d.scale
theorem decO : OpensP Tryz.prog 26 cDc 3 DcG :=
  opensP_iso (opensP_struct Tryz.underlying26 (by kernel_rfl) (fieldsP_cons bigO rfl (fieldsP_one intO rfl))) (fun d : Dc => ((d.neg, d.limbs), d.scale)) (fun p => ⟨p.1.1, p.1.2, p.2⟩) (fun _ => rfl) (fun _ => rfl)
theorem spanO : OpensP Tryz.prog 28 (fun p : Int × Int => [.b (.int .i64 p.1), .b (.int .i64 p.2)]) 2 (fun p => I64 p.1 ∧ I64 p.2) :=
  opensP_iso (opensP_struct Tryz.underlying28 (by kernel_rfl) (fieldsP_cons intO rfl (fieldsP_one intO rfl))) (fun p : Int × Int => p) id (fun _ => rfl) (fun _ => rfl)
def VlG (v : Vl) : Prop := I64 v.kind ∧ True ∧ DcG v.num ∧ I64 v.day ∧ (I64 v.months ∧ I64 v.days) ∧ v.text.size ≤ maxLen
theorem valueO : OpensP Tryz.prog 30 cVl 9 VlG :=
  opensP_iso (opensP_struct Tryz.underlying30 (by kernel_rfl) (fieldsP_cons intO rfl (fieldsP_cons (opensP_bool Tryz.underlying4 (by kernel_rfl)) rfl (fieldsP_cons decO rfl (fieldsP_cons intO rfl (fieldsP_cons spanO rfl (fieldsP_one (opensP_string Tryz.underlying9 (by kernel_rfl)) rfl)))))))
    (fun v : Vl => (v.kind, v.yes, v.num, v.day, (v.months, v.days), v.text)) (fun p => ⟨p.1, p.2.1, p.2.2.1, p.2.2.2.1, p.2.2.2.2.1.1, p.2.2.2.2.1.2, p.2.2.2.2.2⟩) (fun _ => rfl) (fun _ => rfl)
theorem maxLen_le : maxLen ≤ 9223372036854775807 := by decide
theorem RVs_one {P : Program} {φ : Phi} {D : Nat → Prop} {w : World} {x : PV} {v : Value} (h : RV P φ D w x v) : RVs P φ D w [x] #[v] := ⟨rfl, fun j y hy => by
  cases j with
  | zero => simp at hy; subst hy; exact h
  | succ j => simp at hy⟩
theorem okWideP_slice {P : Program} {w : World} {r : Reach} {base : Nat} {t e : TypeId} {v : Value} (ht : P.underlying t = some (.slice e)) (h : Value.okWide P w r base t v) : v.cells.toList = [v] := by
  cases v <;> simp_all [Value.okWide, Cell.okWide, Cell.ok, Value.cells]
/-- A parameter of one cell. -/
theorem opensP_arg1 {P : Program} {t : TypeId} {α : Type} {f : α → List PV} {sz : Nat} {G : α → Prop} (h : OpensP P t f sz G) {g : α → PV} (hg : ∀ x, f x = [g x]) {H : Type} {enc : TypeId × Value → H} {w : World} {base : Nat} {sp : Nat → Bool} {held : Bool} {v : Value} {y : DataW H} {ps : List MemPlace} (hv : v.cells.toList = [v]) (hy : DataW.Trod enc P w base sp held t v y ps) :
    ∃ x, RV P noPhi (fun b => b < w.heap.size) w (g x) v ∧ G x := by
  obtain ⟨fuel, hf⟩ := hy
  obtain ⟨x, h1, h2, h3⟩ := h.tells hf
  rw [hv, hg] at h1
  exact ⟨x, h1.2 0 (g x) v rfl rfl, h3⟩
theorem RVs_two {P : Program} {φ : Phi} {D : Nat → Prop} {w : World} {x y : PV} {u v : Value} (h : RV P φ D w x u) (h2 : RV P φ D w y v) : RVs P φ D w [x, y] #[u, v] := ⟨rfl, fun j q hq => by
  rcases j with _ | _ | j
  · simp at hq; subst hq; exact h
  · simp at hq; subst hq; exact h2
  · simp at hq⟩
def TyG (t : Ty) : Prop := I64 t.kind ∧ I64 t.digits ∧ I64 t.scale
theorem typeO : OpensP Tryz.prog 66 cTy 3 TyG :=
  opensP_iso (opensP_struct Tryz.underlying66 (by kernel_rfl) (fieldsP_cons intO rfl (fieldsP_cons intO rfl (fieldsP_one intO rfl)))) (fun v : Ty => (v.kind, v.digits, v.scale)) (fun p => ⟨p.1, p.2.1, p.2.2⟩) (fun _ => rfl) (fun _ => rfl)
theorem typesO : OpensP Tryz.prog 42 (fun l : List Ty => [.val l.length (l.flatMap cTy)]) 1 (fun l => l.length ≤ maxLen ∧ ∀ x ∈ l, TyG x) :=
  opensP_slice Tryz.underlying42 (by kernel_rfl) (by decide) typeO
theorem valuesO : OpensP Tryz.prog 43 (fun l : List Vl => [.val l.length (l.flatMap cVl)]) 1 (fun l => l.length ≤ maxLen ∧ ∀ x ∈ l, VlG x) :=
  opensP_slice Tryz.underlying43 (by kernel_rfl) (by decide) valueO
end Go.Proofs.YtneapbfomhalpaaGreatDoor.T
