/- Types, and lists of values and types, with no program in sight. -/
import Derived.Test.YtneapbfomhalpaaGreatDoorQVR
import Derived.Test.YtneapbfomhalpaaGreatDoorQPW
set_option linter.unusedVariables false
set_option linter.unusedSimpArgs false
namespace Go.Pv
structure Ty where
  kind : Int
  digits : Int
  scale : Int
abbrev cTy (t : Ty) : List PV := [vI t.kind, vI t.digits, vI t.scale]
abbrev vTy (t : Ty) : PV := .agg (cTy t)
abbrev vTys (l : List Ty) : PV := .val l.length (l.flatMap cTy)
abbrev vVls (l : List Vl) : PV := .val l.length (l.flatMap cVl)
def ty0 : Ty := ⟨0, 0, 0⟩
variable {P : Program}
theorem cln_cVl {v : Vl} : ∀ x ∈ cVl v, Cln P x := by
  intro x hx
  simp only [List.mem_cons, List.not_mem_nil, or_false] at hx
  rcases hx with rfl | rfl | rfl | rfl | rfl | rfl | rfl | rfl | rfl <;> first | exact Cln.b _ | exact cln_vI
theorem cln_vls {n : Nat} {l : List Vl} : Cln P (.val n (l.flatMap cVl)) := Cln.val (by
  intro x hx
  obtain ⟨v, _, h⟩ := List.mem_flatMap.1 hx
  exact cln_cVl x h)
theorem cln_tys {n : Nat} {l : List Ty} : Cln P (.val n (l.flatMap cTy)) := Cln.val (by
  intro x hx
  obtain ⟨v, _, h⟩ := List.mem_flatMap.1 hx
  simp only [List.mem_cons, List.not_mem_nil, or_false] at h
  rcases h with rfl | rfl | rfl <;> exact Cln.b _)
theorem clean_vls {n : Nat} {l : List Vl} : Cln P (.val n (l.flatMap cVl)) = True := eq_true cln_vls
theorem clean_tys {n : Nat} {l : List Ty} : Cln P (.val n (l.flatMap cTy)) = True := eq_true cln_tys
theorem flat_vvls {n : Nat} {l : List Vl} : Cln P (.val n (l.flatMap cVl)) ∧ ((∃ v, PV.val n (l.flatMap cVl) = .b v) ∨ ∃ n' ys, PV.val n (l.flatMap cVl) = .val n' ys) := ⟨cln_vls, .inr ⟨_, _, rfl⟩⟩
theorem flat_vtys {n : Nat} {l : List Ty} : Cln P (.val n (l.flatMap cTy)) ∧ ((∃ v, PV.val n (l.flatMap cTy) = .b v) ∨ ∃ n' ys, PV.val n (l.flatMap cTy) = .val n' ys) := ⟨cln_tys, .inr ⟨_, _, rfl⟩⟩
theorem flat_cVl {v : Vl} : Flat P (cVl v) := fun x hx => ⟨cln_cVl x hx, by
  simp only [List.mem_cons, List.not_mem_nil, or_false] at hx
  rcases hx with rfl | rfl | rfl | rfl | rfl | rfl | rfl | rfl | rfl <;> first | exact .inl ⟨_, rfl⟩ | exact .inr ⟨_, _, rfl⟩⟩
theorem flat_vls {l : List Vl} : Flat P (l.flatMap cVl) := fun x hx => by
  obtain ⟨v, _, h⟩ := List.mem_flatMap.1 hx
  exact flat_cVl x h
theorem flat_tys {l : List Ty} : Flat P (l.flatMap cTy) := fun x hx => by
  obtain ⟨v, _, h⟩ := List.mem_flatMap.1 hx
  simp only [List.mem_cons, List.not_mem_nil, or_false] at h
  rcases h with rfl | rfl | rfl <;> exact flat_b
theorem hok_vls {n : Nat} {l : List Vl} : HOk P (.val n (l.flatMap cVl)) := .inr (.inr cln_vls)
theorem hok_tys {n : Nat} {l : List Ty} : HOk P (.val n (l.flatMap cTy)) := .inr (.inr cln_tys)
theorem len_vls {l : List Vl} : (l.flatMap cVl).length = l.length * 9 := by
  induction l with
  | nil => rfl
  | cons x l ih => simp only [List.flatMap_cons, List.length_append, ih, List.length_cons, List.length_nil]; omega
theorem len_tys {l : List Ty} : (l.flatMap cTy).length = l.length * 3 := by
  induction l with
  | nil => rfl
  | cons x l ih => simp only [List.flatMap_cons, List.length_append, ih, List.length_cons, List.length_nil]; omega
theorem load_vls {l : List Vl} {k n : Nat} {z : Option (List Value)} {K : PV → Prop} (h : k < l.length) (hK : K (vVl (l.getD k vl0))) : loadPV ⟨true, 9, n, z⟩ ((l.flatMap cVl).drop (k * 9)) K :=
  loadPV_drop (g := cVl) (fun _ => rfl) h (by have e : l[k] = l.getD k vl0 := (by simp [h]); rw [e]; exact hK)
theorem load_tys {l : List Ty} {k n : Nat} {z : Option (List Value)} {K : PV → Prop} (h : k < l.length) (hK : K (vTy (l.getD k ty0))) : loadPV ⟨true, 3, n, z⟩ ((l.flatMap cTy).drop (k * 3)) K :=
  loadPV_drop (g := cTy) (fun _ => rfl) h (by have e : l[k] = l.getD k ty0 := (by simp [h]); rw [e]; exact hK)
theorem take_flat {α : Type} {g : α → List PV} {l : List α} {k q : Nat} (hq : ∀ x, (g x).length = q) (h : k < l.length) : ((l.flatMap g).drop (k * q)).take q = g l[k] := by
  induction l generalizing k with
  | nil => exact absurd h (Nat.not_lt_zero _)
  | cons x l ih =>
    cases k with
    | zero => rw [Nat.zero_mul, List.drop_zero, List.flatMap_cons, List.take_append_of_le_length (by rw [hq]; exact Nat.le_refl _), List.take_of_length_le (by rw [hq]; exact Nat.le_refl _)]; rfl
    | succ k =>
      have := ih (k := k) (by simpa using h)
      rw [List.flatMap_cons, show (k + 1) * q = (g x).length + k * q by rw [hq, Nat.add_mul]; omega, ← List.drop_drop, List.drop_left, this]
      rfl
theorem take_vls {l : List Vl} {k : Nat} (h : k < l.length) : List.take 9 (List.drop (k * 9) (List.flatMap cVl l)) = cVl (l.getD k vl0) := by
  have e : l[k] = l.getD k vl0 := (by simp [h])
  rw [← e]; exact take_flat (g := cVl) (q := 9) (fun _ => rfl) h
theorem take_tys {l : List Ty} {k : Nat} (h : k < l.length) : List.take 3 (List.drop (k * 3) (List.flatMap cTy l)) = cTy (l.getD k ty0) := by
  have e : l[k] = l.getD k ty0 := (by simp [h])
  rw [← e]; exact take_flat (g := cTy) (q := 3) (fun _ => rfl) h
theorem getV_of_lt {l : List Vl} {k : Nat} (h : k < l.length) : l[k] = l.getD k vl0 := by simp [h]
theorem getT_of_lt {l : List Ty} {k : Nat} (h : k < l.length) : l[k] = l.getD k ty0 := by simp [h]
/-- A type is ok; a value fits it. -/
def okTy (t : Ty) : Bool := if t.kind = 2 then decide (1 ≤ t.digits ∧ t.digits ≤ 30) && (decide (0 ≤ t.scale ∧ t.scale ≤ 12) && decide (t.scale ≤ t.digits)) else decide (1 ≤ t.kind ∧ t.kind ≤ 5) && (decide (t.digits = 0) && decide (t.scale = 0))
def fitV (v : Vl) (t : Ty) : Bool := if v.kind = 0 then true else if v.kind = t.kind then (if v.kind = 2 then decide (v.num.scale = t.scale) && decide (longL v.num.limbs ≤ t.digits) else true) else false
theorem allT_no {α : Type} {p : α → Bool} {l : List α} {d : α} {i : Nat} (hi : i < l.length) (h : p (l.getD i d) = false) : l.all p = false := by
  rw [List.getD_eq_getElem?_getD, List.getElem?_eq_getElem hi] at h
  exact List.all_eq_false.2 ⟨_, List.getElem_mem hi, by rw [show (some l[i]).getD d = l[i] from rfl] at h; rw [h]; decide⟩
theorem allT_yes {α : Type} {p : α → Bool} {l : List α} {d : α} (h : ∀ k, k < l.length → p (l.getD k d) = true) : l.all p = true := by
  rw [List.all_eq_true]
  intro x hx
  obtain ⟨k, hk, rfl⟩ := List.getElem_of_mem hx
  have := h k hk
  rw [List.getD_eq_getElem?_getD, List.getElem?_eq_getElem hk] at this
  exact this
theorem allT_get {α : Type} {p : α → Bool} {l : List α} {d : α} (h : l.all p = true) {k : Nat} (hk : k < l.length) : p (l.getD k d) = true := by
  rw [List.all_eq_true] at h
  rw [List.getD_eq_getElem?_getD, List.getElem?_eq_getElem hk]
  exact h _ (List.getElem_mem hk)
def okTys (l : List Ty) : Bool := l.all okTy && decide (1 ≤ l.length ∧ l.length ≤ 4)
end Go.Pv
namespace Go.Proofs.YtneapbfomhalpaaGreatDoor.T
open Go Go.Pv
open Classical in
/-- A row is one of types. -/
noncomputable def okRow (ts : List Ty) (vs : List Vl) : Bool := decide (okTys ts = true ∧ vs.length = ts.length ∧ ∀ i, i < vs.length → okV (vs.getD i vl0) = true ∧ fitV (vs.getD i vl0) (ts.getD i ty0) = true)
theorem okRow_no {ts : List Ty} {vs : List Vl} (h : ¬ (okTys ts = true ∧ vs.length = ts.length ∧ ∀ i, i < vs.length → okV (vs.getD i vl0) = true ∧ fitV (vs.getD i vl0) (ts.getD i ty0) = true)) : okRow ts vs = false := decide_eq_false h
theorem okRow_yes {ts : List Ty} {vs : List Vl} (h : okTys ts = true ∧ vs.length = ts.length ∧ ∀ i, i < vs.length → okV (vs.getD i vl0) = true ∧ fitV (vs.getD i vl0) (ts.getD i ty0) = true) : okRow ts vs = true := decide_eq_true h
/-- The text of a row, of its first values. -/
noncomputable def rowK (vs : List Vl) : Nat → ByteArray
  | 0 => ByteArray.empty
  | k + 1 => rowK vs k ++ (putV (vs.getD k vl0) ++ (⟨#[10]⟩ : ByteArray))
noncomputable def rowT (vs : List Vl) : ByteArray := rowK vs vs.length
end Go.Proofs.YtneapbfomhalpaaGreatDoor.T
