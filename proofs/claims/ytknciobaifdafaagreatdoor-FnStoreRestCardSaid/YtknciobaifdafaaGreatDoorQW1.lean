/- What the statement's reader finds at a type, as the engine's values see it. -/
import Derived.Test.YtknciobaifdafaaGreatDoorQD
import Derived.ChangeArms
import Derived.OpenShut
import Derived.Test.YtknciobaifdafaaGreatDoorRows
import Derived.Test.YtknciobaifdafaaGreatDoorQS0
import Derived.ProofKit
import Derived.Lay
import Derived.LaidMore
import Derived.MakeChecks
set_option linter.unusedVariables false
set_option linter.unusedSimpArgs false
namespace Go.Pv
variable {P : Program}
def Reads (P : Program) (w : World) (ps : List PV) (cs : List Value) : Prop := ps.length = cs.length ∧ ∀ (j : Nat) (p : PV) (u : Value), ps[j]? = some p → cs[j]? = some u → RV P qi (fun b => b < w.heap.size) w p u
theorem Reads.nil {w : World} : Reads P w [] [] := ⟨rfl, fun j p u h => by simp at h⟩
theorem Reads.one {w : World} {p : PV} {u : Value} (h : RV P qi (fun b => b < w.heap.size) w p u) : Reads P w [p] [u] := ⟨rfl, fun j p' u' hp hu => by
  cases j with
  | zero => simp at hp hu; subst hp; subst hu; exact h
  | succ j => simp at hp⟩
theorem Reads.app {w : World} {ps qs : List PV} {cs ds : List Value} (h1 : Reads P w ps cs) (h2 : Reads P w qs ds) : Reads P w (ps ++ qs) (cs ++ ds) := by
  refine ⟨by rw [List.length_append, List.length_append, h1.1, h2.1], fun j p u hp hu => ?_⟩
  rcases Nat.lt_or_ge j ps.length with h | h
  · rw [List.getElem?_append_left h] at hp
    rw [List.getElem?_append_left (by rw [← h1.1]; exact h)] at hu
    exact h1.2 j p u hp hu
  · rw [List.getElem?_append_right h] at hp
    rw [List.getElem?_append_right (by rw [← h1.1]; exact h), ← h1.1] at hu
    exact h2.2 _ p u hp hu
structure OpensP (P : Program) (t : TypeId) {α : Type} (f : α → List PV) (sz : Nat) (G : α → Prop) : Prop where
  size : P.cellsOf t = sz
  tells : ∀ {H : Type} {enc : TypeId × Value → H} {w : World} {base : Nat} {sp : Nat → Bool} {held : Bool} {fuel : Nat} {cs : List Value} {y : DataW H × List MemPlace}, DataW.trod enc P w base sp held fuel t cs = some y → ∃ x, Reads P w (f x) cs ∧ (f x).length = sz ∧ G x
theorem IP {w : World} {base : Nat} {a : Addr} {n : Nat} {c : List Value} (h : w.cells? base a n = some c) : c.length = n ∧ ∀ i u, c[i]? = some u → w.cell? (a.add i) = some u := by
  unfold World.cells? at h
  split at h
  · have hl := mapM_some_length h
    refine ⟨by simpa using hl, fun i u hu => ?_⟩
    have hi : i < n := by
      have := (List.getElem?_eq_some_iff.1 hu).1
      have : c.length = n := by simpa using hl
      omega
    have hg := mapM_some_get h i i (by simp [hi])
    rw [hg]; exact hu
  · cases h
theorem wR {α β : Type} : ∀ (Q : Nat → β → α → Prop) (l : List β), (∀ i b, l[i]? = some b → ∃ a, Q i b a) → ∃ xs : List α, xs.length = l.length ∧ ∀ i b a, l[i]? = some b → xs[i]? = some a → Q i b a
  | _, [], _ => ⟨[], rfl, by simp⟩
  | Q, b :: l, h => by
    obtain ⟨a, ha⟩ := h 0 b rfl
    obtain ⟨xs, hl, hx⟩ := wR (fun i => Q (i + 1)) l (fun i b' hb => h (i + 1) b' (by simpa using hb))
    refine ⟨a :: xs, by simp [hl], fun i b' a' hb ha' => ?_⟩
    cases i with
    | zero => simp at hb ha'; subst hb; subst ha'; exact ha
    | succ i => exact hx i b' a' (by simpa using hb) (by simpa using ha')
theorem flat_get {α : Type} {f : α → List PV} {sz : Nat} : ∀ (xs : List α), (∀ x ∈ xs, (f x).length = sz) → ∀ j p, (xs.flatMap f)[j]? = some p → ∃ i r x, j = i * sz + r ∧ r < sz ∧ xs[i]? = some x ∧ (f x)[r]? = some p
  | [], _, j, p, h => by simp at h
  | x :: xs, hs, j, p, h => by
    have hx := hs x (List.mem_cons_self ..)
    rw [List.flatMap_cons] at h
    rcases Nat.lt_or_ge j sz with hj | hj
    · rw [List.getElem?_append_left (by omega)] at h
      exact ⟨0, j, x, by omega, hj, rfl, h⟩
    · rw [List.getElem?_append_right (by omega), hx] at h
      obtain ⟨i, r, y, h1, h2, h3, h4⟩ := flat_get xs (fun z hz => hs z (List.mem_cons_of_mem _ hz)) _ p h
      exact ⟨i + 1, r, y, by rw [Nat.add_mul]; omega, h2, by simpa using h3, h4⟩
theorem NM {w : World} {a : Addr} {u : Value} (h : w.cell? a = some u) : a.block < w.heap.size := by
  rcases Nat.lt_or_ge a.block w.heap.size with h' | h'
  · exact h'
  · unfold World.cell? at h
    rw [Array.getElem?_eq_none h'] at h
    simp at h
theorem Es {t e : TypeId} {α : Type} {f : α → List PV} {sz : Nat} {G : α → Prop} (ht : P.underlying t = some (.slice e)) (hc : P.cellsOf t = 1) (h0 : 0 < sz) (h : OpensP P e f sz G) : OpensP P t (fun xs : List α => [.val xs.length (xs.flatMap f)]) 1 (fun xs => xs.length ≤ maxLen ∧ ∀ x ∈ xs, G x) := by
  refine ⟨hc, fun {H enc w base sp held fuel cs y} hy => ?_⟩
  rcases DataW.trod_slice ht hy with ⟨rfl, _⟩ | ⟨a, len, cap, elems, rest, n, _, rfl, hx, _, hl, hm, hlen, hel, _⟩
  · exact ⟨[], .one .val0, rfl, by simp, by simp⟩
  · have hq : ∀ i b, elems[i]? = some b → ∃ x : α, ∃ c, Reads P w (f x) c ∧ (f x).length = sz ∧ G x ∧ ∀ j u, c[j]? = some u → w.cell? ((a.add (i * sz)).add j) = some u := by
      intro i b hb
      have hi : i < len := by rw [← hlen]; exact (List.getElem?_eq_some_iff.1 hb).1
      have hE := hel i hi
      rw [hb, Option.bind_eq_some_iff] at hE
      obtain ⟨c, hc1, hc2⟩ := hE
      obtain ⟨x, hK, hL, hG⟩ := h.tells hc2
      rw [h.size] at hc1
      obtain ⟨hcl, hcc⟩ := IP hc1
      exact ⟨x, c, hK, hL, hG, hcc⟩
    obtain ⟨xs, hxl, hxs⟩ := wR _ elems hq
    have hsz : ∀ x ∈ xs, (f x).length = sz := fun x hx => by
      obtain ⟨j, hj, rfl⟩ := List.mem_iff_getElem.1 hx
      obtain ⟨c, _, h2, _⟩ := hxs j _ _ (List.getElem?_eq_getElem (by omega : j < elems.length)) (List.getElem?_eq_getElem hj)
      exact h2
    have hat : ∀ j p, (xs.flatMap f)[j]? = some p → ∃ u, w.cell? (a.add j) = some u ∧ RV P qi (fun b => b < w.heap.size) w p u := fun j p hp => by
      obtain ⟨i, r, x, h1, h2, h3, h4⟩ := flat_get xs hsz j p hp
      have hi : i < elems.length := by rw [← hxl]; exact (List.getElem?_eq_some_iff.1 h3).1
      obtain ⟨c, hr, hl', _, hcc⟩ := hxs i _ x (List.getElem?_eq_getElem hi) h3
      have hrc : r < c.length := by rw [← hr.1, hl']; exact h2
      have := hcc r _ (List.getElem?_eq_getElem hrc)
      have e : (a.add (i * sz)).add r = a.add j := by rw [add_add, h1]
      rw [e] at this
      exact ⟨_, this, hr.2 r p _ h4 (List.getElem?_eq_getElem hrc)⟩
    refine ⟨xs, .one ?_, rfl, by omega, ?_⟩
    · by_cases hz : xs.length = 0
      · rw [show len = 0 by omega, hz]; exact .val0
      · have hne : 0 < (xs.flatMap f).length := by
          cases xs with
          | nil => exact absurd rfl hz
          | cons x xs => rw [List.flatMap_cons, List.length_append, hsz x (List.mem_cons_self ..)]; omega
        obtain ⟨u0, hu0, _⟩ := hat 0 _ (List.getElem?_eq_getElem hne)
        have hb : a.block < w.heap.size := by
          have := NM hu0
          have e : (a.add 0).block = a.block := by unfold Addr.add; split <;> rfl
          rwa [e] at this
        rw [show xs.length = len by omega]
        exact .val (f := fun j => (w.cell? (a.add j)).getD undef) hl hb (fun j x hx => by obtain ⟨u, hu, _⟩ := hat j x hx; rw [hu]; rfl) (fun j x hx => by obtain ⟨u, hu, hr⟩ := hat j x hx; rw [hu]; exact hr)
    · intro x hx
      obtain ⟨j, hj, rfl⟩ := List.mem_iff_getElem.1 hx
      obtain ⟨c, _, _, h3, _⟩ := hxs j _ _ (List.getElem?_eq_getElem (by omega : j < elems.length)) (List.getElem?_eq_getElem hj)
      exact h3
theorem IQ {t : TypeId} {α β : Type} {f : α → List PV} {sz : Nat} {G : α → Prop} (h : OpensP P t f sz G) (k : β → α) (g : α → β) (hk : ∀ a, k (g a) = a) {f' : β → List PV} (hf : ∀ b, f' b = f (k b)) : OpensP P t f' sz (fun b => G (k b)) :=
  ⟨h.size, fun hy => by
    obtain ⟨x, h1, h2, h3⟩ := h.tells hy
    exact ⟨g x, by rw [hf, hk]; exact h1, by rw [hf, hk]; exact h2, by rw [hk]; exact h3⟩⟩
end Go.Pv
set_option linter.unusedVariables false
set_option linter.unusedSimpArgs false
set_option maxRecDepth 100000
namespace Go.Proofs.YtknciobaifdafaaGreatDoor.T
open Go Go.Pv Go.ChangeShapes Go.WideShapes Go.ChangeAt Go.RowKit
theorem own : ownKnob Tryz.prog.godebug = none := by kernel_rfl
theorem laidOut : laidOutB Tryz.prog = true := by kernel_rfl
theorem eX {H : Type} {enc : TypeId × Value → H} {a : Assume} {C : Checked} {os : Os} {f : FuncId} {fn : Func} {s : ChangeSpec} {conds : List PathCond} {apart fresh handsOn again : Bool} {X : World → Array Value → Prop}
    (hX : ∀ (w w' : World) (args : Array Value), w.heap = w'.heap → X w args → X w' args)
    (own : ownKnob C.prog.godebug = none) (started : os.Started) (noInit : C.prog.inits.idxOf? f = none) (hfn : C.prog.funcs[f]? = some fn)
    (witness : ∃ (w : World) (tape : Tape) (i : Input), w.os = os ∧ (w.forCall tape i).Shaped C.prog ∧ i.vars = [] ∧ Input.okWide C.prog (w.forCall tape i) .any w.heap.size f i ∧
      ((s.pre enc C.prog fn conds apart (w.forCall tape i).memory i.args ∧ X (w.forCall tape i).memory i.args) ∧ sizedMet enc C.prog fn (OpenSpec.ofChange s) apart (w.forCall tape i).memory i.args) ∧ a.holds C.prog (lone (Frame.enter C.prog f i.args .normal) [] (w.forCall tape i)))
    (contract : ∀ (W : World) (base : Nat) (args : Array Value) (ds gs : List (DataW H)) (before : List MemPlace), W.ShapedOpen C.prog →
      (∀ (j : Nat) t v, fn.params[j]? = some t → args[j]? = some v → Value.okWide C.prog W .any base t v) →
      DataW.Whole enc C.prog fn.params.toList s.vars apart W args.toList ds gs before → X W args →
      Calls C.prog f args W fun e W' => ∃ v, e = .returned v ∧ s.post enc C.prog fn apart fresh handsOn again W args v W') :
    ReturnsInHanded a C os f .any (fun w args => (s.pre enc C.prog fn conds apart w args ∧ X w args) ∧ sizedMet enc C.prog fn (OpenSpec.ofChange s) apart w args) (s.post enc C.prog fn apart fresh handsOn again) := by
  refine returnsInHanded_of_calls own started noInit witness ?_
  intro w tape i _ hsh _ hok hpre hholds
  obtain ⟨_, _, _, fn', hfn', _, _, _, _, hval⟩ := hok
  have e : fn' = fn := Option.some.inj (hfn'.symm.trans hfn)
  subst e
  obtain ⟨⟨⟨ds, gs, before, hw, hc⟩, hx⟩, hz⟩ := hpre
  have hw' := DataW.Whole.of_heap (w' := w.forCall tape i) (by rfl) hw
  refine (contract (w.forCall tape i) w.heap.size i.args ds gs before hsh hval hw' (hX _ _ _ (by rfl) hx)).mono fun e W' ⟨v, he, hp⟩ => ?_
  subst he
  exact ChangeSpec.post_blind hp
theorem PH {P : Program} {H : Type} {enc : TypeId × Value → H} {w : World} {base : Nat} {sp : Nat → Bool} {held : Bool} {fuel : Nat} {t : TypeId} {ms : Array (String × TypeId)} {cs : List Value} {d : DataW H} {p : List MemPlace}
    (ht : P.underlying t = some (.interface ms)) (h : DataW.trod enc P w base sp held fuel t cs = some (d, p)) (hd : d ≠ .nil) : ∃ u v, cs = [.iface u v] := by
  cases fuel with
  | zero => simp [DataW.trod] at h
  | succ n =>
    unfold DataW.trod at h
    rw [ht] at h
    split at h <;> simp_all
theorem IR : ∃ t e, (Tryz.prog.globals[3]?).map (·.type) = some t ∧ Tryz.prog.underlying t = some (.array 20 e) ∧ Tryz.prog.underlying e = some (.int .u64) ∧ Tryz.prog.cellsOf e = 1 ∧ Tryz.prog.cellsOf t = 20 :=
  ⟨_, 188, rfl, rfl, by kernel_rfl, by kernel_rfl, by kernel_rfl⟩
theorem IU : ∃ t ms, (Tryz.prog.globals[1]?).map (·.type) = some t ∧ Tryz.prog.underlying t = some (.interface ms) := ⟨_, _, rfl, rfl⟩
theorem IV : ∃ t ms, (Tryz.prog.globals[2]?).map (·.type) = some t ∧ Tryz.prog.underlying t = some (.interface ms) := ⟨_, _, rfl, rfl⟩
theorem IW : (((begin Tryz.prog (fun _ _ => 0) default).world.heap[0]?).bind Obj.row?) = some (#[.int .i64 0], 3) := by kernel_rfl
theorem Le {W : World} (hs : W.ShapedOpen Tryz.prog) : ∃ m, W.cell? ⟨0, 0, none⟩ = some (.int .i64 m) := by
  obtain ⟨cs, h1, h2, h3⟩ := hs.1 0 _ _ (of_decide_eq_true (by kernel_rfl)) IW
  obtain ⟨ts, h4, _, h5⟩ := h3 (by kernel_rfl)
  have e : ts = [3] := Option.some.inj (h4.symm.trans (show Tryz.prog.cellTypes Tryz.prog.depth 3 = some [3] by kernel_rfl))
  subst e
  have hz : cs.size = 1 := h2
  obtain ⟨v, hv⟩ : ∃ v, cs[0]? = some v := ⟨_, Array.getElem?_eq_getElem (by omega)⟩
  obtain ⟨u, hu, hok⟩ := h5 0 v hv
  have hu3 : u = 3 := by simpa using hu.symm
  subst hu3
  unfold Cell.ok at hok
  rw [Tryz.underlying3] at hok
  cases v <;> simp at hok
  obtain ⟨rfl, _⟩ := hok
  rename_i m _
  refine ⟨m, ?_⟩
  unfold World.cell?
  rw [h1]
  simp [hv]
theorem pX {W : World} {laid : List (String × DataW Unit)} (hl : laid = [("math/bits.deBruijn32tab", Rows.laid_math_bits_deBruijn32tab), ("math/bits.deBruijn64tab", Rows.laid_math_bits_deBruijn64tab), ("internal/strconv.uint64pow10", Rows.laid_internal_strconv_uint64pow10), ("unicode/utf8.acceptRanges", Rows.laid_unicode_utf8_acceptRanges), ("strconv.ErrRange", Rows.laid_strconv_ErrRange), ("strconv.ErrSyntax", Rows.laid_strconv_ErrSyntax), ("unicode/utf8.first", Rows.laid_unicode_utf8_first)])
    (hs : W.ShapedOpen Tryz.prog) (hL : laidMet Tryz.prog laid W) : Gstd Tryz.prog W := by
  subst hl
  obtain ⟨ps, ⟨_, _, _, _, _, _, _, _, _, _, ⟨_, _, _, _, _, _, _, _, _, _, ⟨g3, t3, cs3, f3, p3, q3, hg3, ht3, hv3, hd3, ⟨_, _, _, _, _, _, _, _, _, _, ⟨g2, t2, cs2, f2, p2, q2, hg2, ht2, hv2, hd2, ⟨g1, t1, cs1, f1, p1, q1, hg1, ht1, hv1, hd1, _⟩, _⟩, _⟩, _⟩, _⟩, _⟩, _, _⟩ := hL
  refine ⟨fun g hg => ?_, fun g hg => ?_, fun g hg => ?_, fun g hg => ?_⟩
  · obtain rfl := Option.some.inj (pq.symm.trans hg)
    exact Le hs
  · obtain rfl := Option.some.inj (Ce.symm.trans hg3)
    obtain ⟨t, e, h1, h2, h4, h5, h6⟩ := IR
    obtain rfl := Option.some.inj (h1.symm.trans ht3)
    unfold Lib.TabIs
    rw [hv3, ← Lib.cells_of_tab (k := .u64) (zs := Lib.pow10Tab) h2 h4 h5 h6 hd3]
  · obtain rfl := Option.some.inj (Cf.symm.trans hg1)
    obtain ⟨t, ms, h1, h2⟩ := IU
    obtain rfl := Option.some.inj (h1.symm.trans ht1)
    obtain ⟨u, v, e⟩ := PH h2 hd1 (by unfold Rows.laid_strconv_ErrSyntax; intro e; cases e)
    refine ⟨u, v, ?_⟩
    rw [hv1, show cs1 = #[.iface u v] from by apply Array.ext'; rw [e]]
  · obtain rfl := Option.some.inj (Ci.symm.trans hg2)
    obtain ⟨t, ms, h1, h2⟩ := IV
    obtain rfl := Option.some.inj (h1.symm.trans ht2)
    obtain ⟨u, v, e⟩ := PH h2 hd2 (by unfold Rows.laid_strconv_ErrRange; intro e; cases e)
    refine ⟨u, v, ?_⟩
    rw [hv2, show cs2 = #[.iface u v] from by apply Array.ext'; rw [e]]
theorem pY {W : World} (hs : W.ShapedOpen Tryz.prog) : ∀ b, gblk Tryz.prog b → b < W.heap.size := by
  intro b ⟨n, hn⟩
  have hb : b < Tryz.prog.globals.size := by
    unfold Program.globalNamed at hn
    split at hn
    · rename_i g hf
      cases hn
      have : b ∈ List.filter (fun g => Option.any (fun x => x.name == n) Tryz.prog.globals[g]?) (List.range Tryz.prog.globals.size) := by rw [hf]; exact List.mem_singleton_self _
      exact List.mem_range.1 (List.mem_filter.1 this).1
    · cases hn
  obtain ⟨z, t, hz⟩ : ∃ z t, (((begin Tryz.prog (fun _ _ => 0) default).world.heap[b]?).bind Obj.row?) = some (z, t) := by
    have key : ((List.range Tryz.prog.globals.size).all fun g => (((begin Tryz.prog (fun _ _ => 0) default).world.heap[g]?).bind Obj.row?).isSome) = true := by kernel_rfl
    have := List.all_eq_true.1 key b (List.mem_range.2 hb)
    obtain ⟨⟨z, t⟩, h⟩ := Option.isSome_iff_exists.1 this
    exact ⟨z, t, h⟩
  obtain ⟨cs, h1, _⟩ := hs.1 b z t hb hz
  exact (Array.getElem?_eq_some_iff.1 h1).1
end Go.Proofs.YtknciobaifdafaaGreatDoor.T
