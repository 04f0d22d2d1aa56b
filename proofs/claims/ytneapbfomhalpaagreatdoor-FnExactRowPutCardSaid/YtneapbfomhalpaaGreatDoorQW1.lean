/- What the statement's reader finds at a type, as the engine's values see it. -/
import Derived.Test.YtneapbfomhalpaaGreatDoorQD
import Derived.ChangeArms
import Derived.OpenShut
set_option linter.unusedVariables false
set_option linter.unusedSimpArgs false
namespace Go.Pv
variable {P : Program}
/-- Cells look like that to a walk that begins in world w. -/
def Reads (P : Program) (w : World) (ps : List PV) (cs : List Value) : Prop := ps.length = cs.length ∧ ∀ (j : Nat) (p : PV) (u : Value), ps[j]? = some p → cs[j]? = some u → RV P noPhi (fun b => b < w.heap.size) w p u
theorem Reads.nil {w : World} : Reads P w [] [] := ⟨rfl, fun j p u h => by simp at h⟩
theorem Reads.one {w : World} {p : PV} {u : Value} (h : RV P noPhi (fun b => b < w.heap.size) w p u) : Reads P w [p] [u] := ⟨rfl, fun j p' u' hp hu => by
  cases j with
  | zero => simp at hp hu; subst hp; subst hu; exact h
  | succ j => simp at hp⟩
theorem Reads.app {w : World} {ps qs : List PV} {cs ds : List Value} (h1 : Reads P w ps cs) (h2 : Reads P w qs ds) : Reads P w (ps ++ qs) (cs ++ ds) := by
  refine ⟨by rw [List.length_append, List.length_append, h1.1, h2.1], fun j p u hp hu => ?_⟩
  rcases Nat.lt_or_ge j ps.length with h | h
  · rw [List.getElem?_append_left h] at hp
    rw [List.getElem?_append_left (by rw [← h1.1]; exact h)] at hu
    exact h1.2 j p u hp hu
  · rw [List.getElem?_append_right h] at hp
    rw [List.getElem?_append_right (by rw [← h1.1]; exact h), ← h1.1] at hu
    exact h2.2 _ p u hp hu
/-- What reads at type t is cells that f tells of some x, and G holds of it. -/
structure OpensP (P : Program) (t : TypeId) {α : Type} (f : α → List PV) (sz : Nat) (G : α → Prop) : Prop where
  size : P.cellsOf t = sz
  tells : ∀ {H : Type} {enc : TypeId × Value → H} {w : World} {base : Nat} {sp : Nat → Bool} {held : Bool} {fuel : Nat} {cs : List Value} {y : DataW H × List MemPlace}, DataW.trod enc P w base sp held fuel t cs = some y → ∃ x, Reads P w (f x) cs ∧ (f x).length = sz ∧ G x
theorem opensP_int {t : TypeId} {k : IntKind} (ht : P.underlying t = some (.int k)) (hc : P.cellsOf t = 1) : OpensP P t (fun n : Int => [.b (.int k n)]) 1 (fun _ => True) := by
  refine ⟨hc, fun {H enc w base sp held fuel cs y} h => ?_⟩
  cases fuel with
  | zero => simp [DataW.trod] at h
  | succ m =>
    unfold DataW.trod at h
    rw [ht] at h
    split at h <;> simp_all
    obtain ⟨⟨h1, h2⟩, _⟩ := h
    subst h1
    exact ⟨_, .one (.b _)⟩
theorem opensP_string {t : TypeId} (ht : P.underlying t = some .string) (hc : P.cellsOf t = 1) : OpensP P t (fun s : ByteArray => [vS s]) 1 (fun s => s.size ≤ maxLen) := by
  refine ⟨hc, fun {H enc w base sp held fuel cs y} h => ?_⟩
  cases fuel with
  | zero => simp [DataW.trod] at h
  | succ m =>
    unfold DataW.trod at h
    rw [ht] at h
    split at h <;> simp_all
    exact ⟨_, .one (.b _), h.1⟩
theorem cellsP_get {w : World} {base : Nat} {a : Addr} {n : Nat} {c : List Value} (h : w.cells? base a n = some c) : c.length = n ∧ ∀ i u, c[i]? = some u → w.cell? (a.add i) = some u := by
  unfold World.cells? at h
  split at h
  · have hl := mapM_some_length h
    refine ⟨by simpa using hl, fun i u hu => ?_⟩
    have hi : i < n := by
      have := (List.getElem?_eq_some_iff.1 hu).1
      have : c.length = n := by simpa using hl
      omega
    have hg := mapM_some_get h i i (by simp [hi])
    rw [hg]; exact hu
  · cases h
theorem existsP_list {α β : Type} : ∀ (Q : Nat → β → α → Prop) (l : List β), (∀ i b, l[i]? = some b → ∃ a, Q i b a) → ∃ xs : List α, xs.length = l.length ∧ ∀ i b a, l[i]? = some b → xs[i]? = some a → Q i b a
  | _, [], _ => ⟨[], rfl, by simp⟩
  | Q, b :: l, h => by
    obtain ⟨a, ha⟩ := h 0 b rfl
    obtain ⟨xs, hl, hx⟩ := existsP_list (fun i => Q (i + 1)) l (fun i b' hb => h (i + 1) b' (by simpa using hb))
    refine ⟨a :: xs, by simp [hl], fun i b' a' hb ha' => ?_⟩
    cases i with
    | zero => simp at hb ha'; subst hb; subst ha'; exact ha
    | succ i => exact hx i b' a' (by simpa using hb) (by simpa using ha')
theorem flat_get {α : Type} {f : α → List PV} {sz : Nat} : ∀ (xs : List α), (∀ x ∈ xs, (f x).length = sz) → ∀ j p, (xs.flatMap f)[j]? = some p → ∃ i r x, j = i * sz + r ∧ r < sz ∧ xs[i]? = some x ∧ (f x)[r]? = some p
  | [], _, j, p, h => by simp at h
  | x :: xs, hs, j, p, h => by
    have hx := hs x (List.mem_cons_self ..)
    rw [List.flatMap_cons] at h
    rcases Nat.lt_or_ge j sz with hj | hj
    · rw [List.getElem?_append_left (by omega)] at h
      exact ⟨0, j, x, by omega, hj, rfl, h⟩
    · rw [List.getElem?_append_right (by omega), hx] at h
      obtain ⟨i, r, y, h1, h2, h3, h4⟩ := flat_get xs (fun z hz => hs z (List.mem_cons_of_mem _ hz)) _ p h
      exact ⟨i + 1, r, y, by rw [Nat.add_mul]; omega, h2, by simpa using h3, h4⟩
theorem cellP_lt {w : World} {a : Addr} {u : Value} (h : w.cell? a = some u) : a.block < w.heap.size := by
  rcases Nat.lt_or_ge a.block w.heap.size with h' | h'
  · exact h'
  · unfold World.cell? at h
    rw [Array.getElem?_eq_none h'] at h
    simp at h
theorem opensP_slice {t e : TypeId} {α : Type} {f : α → List PV} {sz : Nat} {G : α → Prop} (ht : P.underlying t = some (.slice e)) (hc : P.cellsOf t = 1) (h0 : 0 < sz) (h : OpensP P e f sz G) : OpensP P t (fun xs : List α => [.val xs.length (xs.flatMap f)]) 1 (fun xs => xs.length ≤ maxLen ∧ ∀ x ∈ xs, G x) := by
  refine ⟨hc, fun {H enc w base sp held fuel cs y} hy => ?_⟩
  rcases DataW.trod_slice ht hy with ⟨rfl, _⟩ | ⟨a, len, cap, elems, rest, n, _, rfl, hx, _, hl, hm, hlen, hel, _⟩
  · exact ⟨[], .one .val0, rfl, by simp, by simp⟩
  · have hq : ∀ i b, elems[i]? = some b → ∃ x : α, ∃ c, Reads P w (f x) c ∧ (f x).length = sz ∧ G x ∧ ∀ j u, c[j]? = some u → w.cell? ((a.add (i * sz)).add j) = some u := by
      intro i b hb
      have hi : i < len := by rw [← hlen]; exact (List.getElem?_eq_some_iff.1 hb).1
      have hE := hel i hi
      rw [hb, Option.bind_eq_some_iff] at hE
      obtain ⟨c, hc1, hc2⟩ := hE
      obtain ⟨x, hK, hL, hG⟩ := h.tells hc2
      rw [h.size] at hc1
      obtain ⟨hcl, hcc⟩ := cellsP_get hc1
      exact ⟨x, c, hK, hL, hG, hcc⟩
    obtain ⟨xs, hxl, hxs⟩ := existsP_list _ elems hq
    have hsz : ∀ x ∈ xs, (f x).length = sz := fun x hx => by
      obtain ⟨j, hj, rfl⟩ := List.mem_iff_getElem.1 hx
      obtain ⟨c, _, h2, _⟩ := hxs j _ _ (List.getElem?_eq_getElem (by omega : j < elems.length)) (List.getElem?_eq_getElem hj)
      exact h2
    have hat : ∀ j p, (xs.flatMap f)[j]? = some p → ∃ u, w.cell? (a.add j) = some u ∧ RV P noPhi (fun b => b < w.heap.size) w p u := fun j p hp => by
      obtain ⟨i, r, x, h1, h2, h3, h4⟩ := flat_get xs hsz j p hp
      have hi : i < elems.length := by rw [← hxl]; exact (List.getElem?_eq_some_iff.1 h3).1
      obtain ⟨c, hr, hl', _, hcc⟩ := hxs i _ x (List.getElem?_eq_getElem hi) h3
      have hrc : r < c.length := by rw [← hr.1, hl']; exact h2
      have := hcc r _ (List.getElem?_eq_getElem hrc)
      have e : (a.add (i * sz)).add r = a.add j := by rw [add_add, h1]
      rw [e] at this
      exact ⟨_, this, hr.2 r p _ h4 (List.getElem?_eq_getElem hrc)⟩
    refine ⟨xs, .one ?_, rfl, by omega, ?_⟩
    · by_cases hz : xs.length = 0
      · rw [show len = 0 by omega, hz]; exact .val0
      · have hne : 0 < (xs.flatMap f).length := by
          cases xs with
          | nil => exact absurd rfl hz
          | cons x xs => rw [List.flatMap_cons, List.length_append, hsz x (List.mem_cons_self ..)]; omega
        obtain ⟨u0, hu0, _⟩ := hat 0 _ (List.getElem?_eq_getElem hne)
        have hb : a.block < w.heap.size := by
          have := cellP_lt hu0
          have e : (a.add 0).block = a.block := by unfold Addr.add; split <;> rfl
          rwa [e] at this
        rw [show xs.length = len by omega]
        exact .val (f := fun j => (w.cell? (a.add j)).getD undef) hl hb (fun j x hx => by obtain ⟨u, hu, _⟩ := hat j x hx; rw [hu]; rfl) (fun j x hx => by obtain ⟨u, hu, hr⟩ := hat j x hx; rw [hu]; exact hr)
    · intro x hx
      obtain ⟨j, hj, rfl⟩ := List.mem_iff_getElem.1 hx
      obtain ⟨c, _, _, h3, _⟩ := hxs j _ _ (List.getElem?_eq_getElem (by omega : j < elems.length)) (List.getElem?_eq_getElem hj)
      exact h3
theorem opensP_iso {t : TypeId} {α β : Type} {f : α → List PV} {sz : Nat} {G : α → Prop} (h : OpensP P t f sz G) (k : β → α) (g : α → β) (hk : ∀ a, k (g a) = a) {f' : β → List PV} (hf : ∀ b, f' b = f (k b)) : OpensP P t f' sz (fun b => G (k b)) :=
  ⟨h.size, fun hy => by
    obtain ⟨x, h1, h2, h3⟩ := h.tells hy
    exact ⟨g x, by rw [hf, hk]; exact h1, by rw [hf, hk]; exact h2, by rw [hk]; exact h3⟩⟩
/-- A struct's fields from cell 'off' on. -/
structure FieldsP (P : Program) (fs : List Field) (off : Nat) {α : Type} (f : α → List PV) (sz : Nat) (G : α → Prop) : Prop where
  tells : ∀ {H : Type} {enc : TypeId × Value → H} {w : World} {base : Nat} {sp : Nat → Bool} {held : Bool} {fuel : Nat} {cs : List Value}, cs.length = off + sz → (∀ f ∈ fs, ∃ y, DataW.trod enc P w base sp held fuel f.type ((cs.drop f.offset).take (P.cellsOf f.type)) = some y) → ∃ x, Reads P w (f x) (cs.drop off) ∧ (f x).length = sz ∧ G x
theorem fieldsP_one {fl : Field} {off : Nat} {α : Type} {f : α → List PV} {sz : Nat} {G : α → Prop} (h : OpensP P fl.type f sz G) (ho : fl.offset = off) : FieldsP P [fl] off f sz G := by
  refine ⟨fun {H enc w base sp held fuel cs} hl hf => ?_⟩
  obtain ⟨y, hy⟩ := hf fl List.mem_cons_self
  rw [ho, List.take_of_length_le (by rw [List.length_drop, h.size]; omega)] at hy
  exact h.tells hy
theorem fieldsP_cons {fl : Field} {fs : List Field} {off : Nat} {α β : Type} {f : α → List PV} {g : β → List PV} {sz sz' : Nat} {G : α → Prop} {G' : β → Prop} (h : OpensP P fl.type f sz G) (ho : fl.offset = off) (hr : FieldsP P fs (off + sz) g sz' G') : FieldsP P (fl :: fs) off (fun x : α × β => f x.1 ++ g x.2) (sz + sz') (fun x => G x.1 ∧ G' x.2) := by
  refine ⟨fun {H enc w base sp held fuel cs} hl hf => ?_⟩
  obtain ⟨y, hy⟩ := hf fl List.mem_cons_self
  rw [ho, h.size] at hy
  obtain ⟨x, hK, hL, hG⟩ := h.tells hy
  obtain ⟨x', hK', hL', hG'⟩ := hr.tells (cs := cs) (by omega) (fun f' hf' => hf f' (List.mem_cons_of_mem _ hf'))
  refine ⟨(x, x'), ?_, by simp only [List.length_append]; omega, hG, hG'⟩
  have e : cs.drop off = (cs.drop off).take sz ++ cs.drop (off + sz) := by rw [← List.drop_drop]; exact (List.take_append_drop _ _).symm
  rw [e]
  exact hK.app hK'
theorem opensP_struct {t : TypeId} {fs : Array Field} {α : Type} {f : α → List PV} {sz : Nat} {G : α → Prop} (ht : P.underlying t = some (.struct fs)) (hc : P.cellsOf t = sz) (h : FieldsP P fs.toList 0 f sz G) : OpensP P t f sz G := by
  refine ⟨hc, fun {H enc w base sp held fuel cs y} hy => ?_⟩
  obtain ⟨xs, n, _, _, hl, hxl, hx⟩ := DataW.trod_struct ht hy
  have := h.tells (enc := enc) (w := w) (base := base) (sp := sp) (held := held) (fuel := n) (cs := cs) (by omega) (fun f hf => by
    obtain ⟨i, hi, rfl⟩ := List.mem_iff_getElem.1 hf
    have hi' : i < fs.size := by simpa using hi
    have := hx i fs[i] (Array.getElem?_eq_getElem hi')
    rw [List.getElem?_eq_getElem (by omega)] at this
    exact ⟨_, by simpa using this⟩)
  simpa using this
theorem okWideP_agg {w : World} {r : Reach} {base : Nat} {t : TypeId} {v : Value} {fs : Array Field} (ht : P.underlying t = some (.struct fs)) (h : Value.okWide P w r base t v) : ∃ cs, v = .agg cs := by
  simp only [Value.okWide, ht] at h
  obtain ⟨cs, rfl, _⟩ := h
  exact ⟨cs, rfl⟩
/-- A parameter that is a struct. -/
theorem opensP_arg {t : TypeId} {α : Type} {f : α → List PV} {sz : Nat} {G : α → Prop} (h : OpensP P t f sz G) {H : Type} {enc : TypeId × Value → H} {w : World} {base : Nat} {sp : Nat → Bool} {held : Bool} {cs : Array Value} {y : DataW H} {ps : List MemPlace} (hy : DataW.Trod enc P w base sp held t (.agg cs) y ps) :
    ∃ x, RV P noPhi (fun b => b < w.heap.size) w (.agg (f x)) (.agg cs) ∧ G x := by
  obtain ⟨fuel, hf⟩ := hy
  obtain ⟨x, h1, h2, h3⟩ := h.tells hf
  have e : (Value.agg cs).cells.toList = cs.toList := by simp [Value.cells]
  rw [e] at h1
  refine ⟨x, .agg (by have := h1.1; simp at this; omega) (fun j p hp => ?_), h3⟩
  have hj : j < cs.toList.length := by rw [← h1.1]; exact (List.getElem?_eq_some_iff.1 hp).1
  have := h1.2 j p _ hp (List.getElem?_eq_getElem hj)
  have e2 : cs.getD j undef = cs.toList[j] := by simp at hj; simp [Array.getD, hj]
  rw [e2]
  exact this
end Go.Pv
