import Derived.Test.YtepihebkdnmppaaxVMore
import Derived.ChangeArms
import Derived.OpenShut
namespace Go.Proofs.YtepihebkdnmppaaV.PrintMore
open Go.RowKit Go.Proofs.YtepihebkdnmppaaV.PrintWords Go.Proofs.YtepihebkdnmppaaV.PrintLast
set_option linter.unusedVariables false
structure Opens (P : Program) (t : TypeId) {α : Type} (d : Kd α) (G : α → Prop) : Prop where
  size : P.cellsOf t = d.sz
  tells : ∀ {H : Type} {enc : TypeId × Value → H} {w : World} {base : Nat} {sp : Nat → Bool} {held : Bool} {fuel : Nat} {cs : List Value} {y : DataW H × List MemPlace}, DataW.trod enc P w base sp held fuel t cs = some y → ∃ x, d.K w x cs ∧ G x
theorem opens_int {P : Program} {t : TypeId} {k : IntKind} (ht : P.underlying t = some (.int k)) (hc : P.cellsOf t = 1) : Opens P t (Kd.int k) (fun n => (Lit.int k n).wf = true) := by
  refine ⟨hc, fun {H enc w base sp held fuel cs y} h => ?_⟩
  cases fuel with
  | zero => simp [DataW.trod] at h
  | succ m =>
    unfold DataW.trod at h
    rw [ht] at h
    split at h <;> simp_all
    obtain ⟨⟨h1, h2⟩, _⟩ := h
    subst h1
    exact ⟨_, rfl, h2⟩
theorem opens_string {P : Program} {t : TypeId} (ht : P.underlying t = some .string) (hc : P.cellsOf t = 1) : Opens P t Kd.string (fun s => s.size ≤ maxLen) := by
  refine ⟨hc, fun {H enc w base sp held fuel cs y} h => ?_⟩
  cases fuel with
  | zero => simp [DataW.trod] at h
  | succ m =>
    unfold DataW.trod at h
    rw [ht] at h
    split at h <;> simp_all
    exact ⟨_, rfl, h.1⟩
theorem cells?_get {w : World} {base : Nat} {a : Addr} {n : Nat} {c : List Value} (h : w.cells? base a n = some c) : c.length = n ∧ ∀ i u, c[i]? = some u → w.cell? (a.add i) = some u := by
  unfold World.cells? at h
  split at h
  · have hl := mapM_some_length h
    refine ⟨by simpa using hl, fun i u hu => ?_⟩
    have hi : i < n := by
      have := (List.getElem?_eq_some_iff.1 hu).1
      have : c.length = n := by simpa using hl
      omega
    have hg := mapM_some_get h i i (by simp [hi])
    rw [hg]; exact hu
  · cases h
theorem exists_list {α β : Type} : ∀ (Q : Nat → β → α → Prop) (l : List β), (∀ i b, l[i]? = some b → ∃ a, Q i b a) → ∃ xs : List α, xs.length = l.length ∧ ∀ i b a, l[i]? = some b → xs[i]? = some a → Q i b a
  | _, [], _ => ⟨[], rfl, by simp⟩
  | Q, b :: l, h => by
    obtain ⟨a, ha⟩ := h 0 b rfl
    obtain ⟨xs, hl, hx⟩ := exists_list (fun i => Q (i + 1)) l (fun i b' hb => h (i + 1) b' (by simpa using hb))
    refine ⟨a :: xs, by simp [hl], fun i b' a' hb ha' => ?_⟩
    cases i with
    | zero => simp at hb ha'; subst hb; subst ha'; exact ha
    | succ i => exact hx i b' a' (by simpa using hb) (by simpa using ha')
theorem opens_slice {P : Program} {t e : TypeId} {α : Type} {d : Kd α} {G : α → Prop} (ht : P.underlying t = some (.slice e)) (hc : P.cellsOf t = 1) (h : Opens P e d G) : Opens P t (Kd.slice e d) (fun xs => xs.length ≤ maxLen ∧ ∀ x ∈ xs, G x) := by
  refine ⟨hc, fun {H enc w base sp held fuel cs y} hy => ?_⟩
  rcases DataW.trod_slice ht hy with ⟨rfl, _⟩ | ⟨a, len, cap, elems, rest, n, _, rfl, hx, _, hl, hm, hlen, hel, _⟩
  · exact ⟨[], ⟨none, 0, rfl, Nat.le_refl _, ⟨rfl, by simp, fun h => by simp at h⟩⟩, by simp, by simp⟩
  · have hq : ∀ i b, elems[i]? = some b → ∃ x : α, ∃ c, c.length = d.sz ∧ d.K w x c ∧ G x ∧ ∀ j u, c[j]? = some u → w.cell? ((a.add (i * d.sz)).add j) = some u := by
      intro i b hb
      have hi : i < len := by rw [← hlen]; exact (List.getElem?_eq_some_iff.1 hb).1
      have hE := hel i hi
      rw [hb, Option.bind_eq_some_iff] at hE
      obtain ⟨c, hc1, hc2⟩ := hE
      obtain ⟨x, hK, hG⟩ := h.tells hc2
      rw [h.size] at hc1
      obtain ⟨hcl, hcc⟩ := cells?_get hc1
      exact ⟨x, c, hcl, hK, hG, hcc⟩
    obtain ⟨xs, hxl, hxs⟩ := exists_list _ elems hq
    refine ⟨xs, ⟨some a, cap, by rw [hxl, hlen], by omega, ⟨rfl, ?_, fun _ => ⟨a, rfl, ?_⟩⟩⟩, ?_, ?_⟩
    · have : maxLen ≤ 9223372036854775807 := by decide
      omega
    · intro j p hp
      have hj : j < elems.length := by rw [← hxl]; exact (List.getElem?_eq_some_iff.1 hp).1
      obtain ⟨c, h1, h2, _, h4⟩ := hxs j _ p (List.getElem?_eq_getElem hj) hp
      refine ⟨c, h1, h2, fun i u hu => ?_⟩
      have := h4 i u hu
      have e : (a.add (j * d.sz)).add i = a.add (j * d.sz + i) := add_add a _ _
      rw [← e]
      exact this
    · omega
    · intro x hx
      obtain ⟨j, hj, rfl⟩ := List.mem_iff_getElem.1 hx
      obtain ⟨c, _, _, h3, _⟩ := hxs j _ _ (List.getElem?_eq_getElem (by omega : j < elems.length)) (List.getElem?_eq_getElem hj)
      exact h3
theorem opens_iso {P : Program} {t : TypeId} {α β : Type} {d : Kd α} {G : α → Prop} (h : Opens P t d G) (f : β → α) (g : α → β) (hfg : ∀ a, f (g a) = a) : Opens P t (Kd.iso d f) (fun b => G (f b)) :=
  ⟨h.size, fun hy => by
    obtain ⟨x, hK, hG⟩ := h.tells hy
    exact ⟨g x, by show d.K _ (f (g x)) _; rw [hfg]; exact hK, by rw [hfg]; exact hG⟩⟩
structure Fields (P : Program) (fs : List Field) (off : Nat) {α : Type} (d : Kd α) (G : α → Prop) : Prop where
  tells : ∀ {H : Type} {enc : TypeId × Value → H} {w : World} {base : Nat} {sp : Nat → Bool} {held : Bool} {fuel : Nat} {cs : List Value}, cs.length = off + d.sz → (∀ f ∈ fs, ∃ y, DataW.trod enc P w base sp held fuel f.type ((cs.drop f.offset).take (P.cellsOf f.type)) = some y) → ∃ x, d.K w x (cs.drop off) ∧ G x
theorem fields_one {P : Program} {f : Field} {off : Nat} {α : Type} {d : Kd α} {G : α → Prop} (h : Opens P f.type d G) (ho : f.offset = off) : Fields P [f] off d G := by
  refine ⟨fun {H enc w base sp held fuel cs} hl hf => ?_⟩
  obtain ⟨y, hy⟩ := hf f List.mem_cons_self
  rw [ho, List.take_of_length_le (by rw [List.length_drop, h.size]; omega)] at hy
  exact h.tells hy
theorem fields_cons {P : Program} {f : Field} {fs : List Field} {off : Nat} {α β : Type} {a : Kd α} {b : Kd β} {G : α → Prop} {G' : β → Prop} (h : Opens P f.type a G) (ho : f.offset = off) (hr : Fields P fs (off + a.sz) b G') : Fields P (f :: fs) off (Kd.pair a b) (fun x => G x.1 ∧ G' x.2) := by
  refine ⟨fun {H enc w base sp held fuel cs} hl hf => ?_⟩
  obtain ⟨y, hy⟩ := hf f List.mem_cons_self
  rw [ho, h.size] at hy
  obtain ⟨x, hK, hG⟩ := h.tells hy
  have hl' : cs.length = off + (a.sz + b.sz) := hl
  obtain ⟨x', hK', hG'⟩ := hr.tells (cs := cs) (by omega) (fun f' hf' => hf f' (List.mem_cons_of_mem _ hf'))
  refine ⟨(x, x'), ⟨(cs.drop off).take a.sz, cs.drop (off + a.sz), ?_, hK, hK'⟩, hG, hG'⟩
  rw [← List.drop_drop]
  exact (List.take_append_drop _ _).symm
theorem opens_struct {P : Program} {t : TypeId} {fs : Array Field} {α : Type} {d : Kd α} {G : α → Prop} (ht : P.underlying t = some (.struct fs)) (hc : P.cellsOf t = d.sz) (h : Fields P fs.toList 0 d G) : Opens P t d G := by
  refine ⟨hc, fun {H enc w base sp held fuel cs y} hy => ?_⟩
  obtain ⟨xs, n, _, _, hl, hxl, hx⟩ := DataW.trod_struct ht hy
  have := h.tells (enc := enc) (w := w) (base := base) (sp := sp) (held := held) (fuel := n) (cs := cs) (by omega) (fun f hf => by
    obtain ⟨i, hi, rfl⟩ := List.mem_iff_getElem.1 hf
    have hi' : i < fs.size := by simpa using hi
    have := hx i fs[i] (Array.getElem?_eq_getElem hi')
    rw [List.getElem?_eq_getElem (by omega)] at this
    exact ⟨_, by simpa using this⟩)
  simpa using this
theorem okWide_agg {P : Program} {w : World} {r : Reach} {base : Nat} {t : TypeId} {v : Value} {fs : Array Field} (ht : P.underlying t = some (.struct fs)) (h : Value.okWide P w r base t v) : ∃ cs, v = .agg cs := by
  simp only [Value.okWide, ht] at h
  obtain ⟨cs, rfl, _⟩ := h
  exact ⟨cs, rfl⟩
theorem opens_arg {P : Program} {t : TypeId} {α : Type} {d : Kd α} {G : α → Prop} (h : Opens P t d G) {H : Type} {enc : TypeId × Value → H} {w : World} {base : Nat} {sp : Nat → Bool} {held : Bool} {v : Value} {y : DataW H} {ps : List MemPlace} (hy : DataW.Trod enc P w base sp held t v y ps) : ∃ x, d.K w x v.cells.toList ∧ G x := by
  obtain ⟨fuel, hf⟩ := hy
  exact h.tells hf
end Go.Proofs.YtepihebkdnmppaaV.PrintMore
