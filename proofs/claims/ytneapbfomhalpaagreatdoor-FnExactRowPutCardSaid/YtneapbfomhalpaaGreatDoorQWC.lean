/- What holds of the library's package variables in the world in which a law begins. -/
import Derived.Test.YtneapbfomhalpaaGreatDoorRows
import Derived.Test.YtneapbfomhalpaaGreatDoorQW1
import Derived.Test.YtneapbfomhalpaaGreatDoorQVT
import Derived.ProofKit
import Derived.Lay
import Derived.LaidMore
import Derived.MakeChecks
set_option linter.unusedVariables false
set_option linter.unusedSimpArgs false
set_option maxRecDepth 100000
namespace Go.Proofs.YtneapbfomhalpaaGreatDoor.T
open Go Go.Pv Go.ChangeShapes Go.WideShapes Go.ChangeAt Go.RowKit
theorem own : ownKnob Tryz.prog.godebug = none := by kernel_rfl
theorem laidOut : laidOutB Tryz.prog = true := by kernel_rfl
/-- A row with a condition on the heap, its world's shape told. -/
theorem returns_shaped {H : Type} {enc : TypeId × Value → H} {a : Assume} {C : Checked} {os : Os} {f : FuncId} {fn : Func} {s : ChangeSpec} {conds : List PathCond} {apart fresh handsOn again : Bool} {X : World → Array Value → Prop}
    (hX : ∀ (w w' : World) (args : Array Value), w.heap = w'.heap → X w args → X w' args)
    (own : ownKnob C.prog.godebug = none) (started : os.Started) (noInit : C.prog.inits.idxOf? f = none) (hfn : C.prog.funcs[f]? = some fn)
    (witness : ∃ (w : World) (tape : Tape) (i : Input), w.os = os ∧ (w.forCall tape i).Shaped C.prog ∧ i.vars = [] ∧ Input.okWide C.prog (w.forCall tape i) .any w.heap.size f i ∧
      ((s.pre enc C.prog fn conds apart (w.forCall tape i).memory i.args ∧ X (w.forCall tape i).memory i.args) ∧ sizedMet enc C.prog fn (OpenSpec.ofChange s) apart (w.forCall tape i).memory i.args) ∧ a.holds C.prog (lone (Frame.enter C.prog f i.args .normal) [] (w.forCall tape i)))
    (contract : ∀ (W : World) (base : Nat) (args : Array Value) (ds gs : List (DataW H)) (before : List MemPlace), W.ShapedOpen C.prog →
      (∀ (j : Nat) t v, fn.params[j]? = some t → args[j]? = some v → Value.okWide C.prog W .any base t v) →
      DataW.Whole enc C.prog fn.params.toList s.vars apart W args.toList ds gs before → X W args →
      Calls C.prog f args W fun e W' => ∃ v, e = .returned v ∧ s.post enc C.prog fn apart fresh handsOn again W args v W') :
    ReturnsInHanded a C os f .any (fun w args => (s.pre enc C.prog fn conds apart w args ∧ X w args) ∧ sizedMet enc C.prog fn (OpenSpec.ofChange s) apart w args) (s.post enc C.prog fn apart fresh handsOn again) := by
  refine returnsInHanded_of_calls own started noInit witness ?_
  intro w tape i _ hsh _ hok hpre hholds
  obtain ⟨_, _, _, fn', hfn', _, _, _, _, hval⟩ := hok
  have e : fn' = fn := Option.some.inj (hfn'.symm.trans hfn)
  subst e
  obtain ⟨⟨⟨ds, gs, before, hw, hc⟩, hx⟩, hz⟩ := hpre
  have hw' := DataW.Whole.of_heap (w' := w.forCall tape i) (by rfl) hw
  refine (contract (w.forCall tape i) w.heap.size i.args ds gs before hsh hval hw' (hX _ _ _ (by rfl) hx)).mono fun e W' ⟨v, he, hp⟩ => ?_
  subst he
  exact ChangeSpec.post_blind hp
theorem trodI {P : Program} {H : Type} {enc : TypeId × Value → H} {w : World} {base : Nat} {sp : Nat → Bool} {held : Bool} {fuel : Nat} {t : TypeId} {ms : Array (String × TypeId)} {cs : List Value} {d : DataW H} {p : List MemPlace}
    (ht : P.underlying t = some (.interface ms)) (h : DataW.trod enc P w base sp held fuel t cs = some (d, p)) (hd : d ≠ .nil) : ∃ u v, cs = [.iface u v] := by
  cases fuel with
  | zero => simp [DataW.trod] at h
  | succ n =>
    unfold DataW.trod at h
    rw [ht] at h
    split at h <;> simp_all
theorem global_pow : ∃ t e, (Tryz.prog.globals[3]?).map (·.type) = some t ∧ Tryz.prog.underlying t = some (.array 20 e) ∧ Tryz.prog.underlying e = some (.int .u64) ∧ Tryz.prog.cellsOf e = 1 ∧ Tryz.prog.cellsOf t = 20 :=
  ⟨_, _, rfl, rfl, by kernel_rfl, by kernel_rfl, by kernel_rfl⟩
theorem global_max : (((begin Tryz.prog (fun _ _ => 0) default).world.heap[0]?).bind Obj.row?) = some (#[.int .i64 0], 3) := by kernel_rfl
theorem maxLen_of {W : World} (hs : W.ShapedOpen Tryz.prog) : ∃ m, W.cell? ⟨0, 0, none⟩ = some (.int .i64 m) := by
  obtain ⟨cs, h1, h2, h3⟩ := hs.1 0 _ _ (of_decide_eq_true (by kernel_rfl)) global_max
  obtain ⟨ts, h4, _, h5⟩ := h3 (by kernel_rfl)
  have e : ts = [3] := Option.some.inj (h4.symm.trans (show Tryz.prog.cellTypes Tryz.prog.depth 3 = some [3] by kernel_rfl))
  subst e
  have hz : cs.size = 1 := h2
  obtain ⟨v, hv⟩ : ∃ v, cs[0]? = some v := ⟨_, Array.getElem?_eq_getElem (by omega)⟩
  obtain ⟨u, hu, hok⟩ := h5 0 v hv
  have hu3 : u = 3 := by simpa using hu.symm
  subst hu3
  unfold Cell.ok at hok
  rw [Tryz.underlying3] at hok
  cases v <;> simp at hok
  obtain ⟨rfl, _⟩ := hok
  rename_i m _
  refine ⟨m, ?_⟩
  unfold World.cell?
  rw [h1]
  simp [hv]
abbrev laidL : List (String × DataW Unit) := [("math/bits.deBruijn32tab", Rows.laid_math_bits_deBruijn32tab), ("math/bits.deBruijn64tab", Rows.laid_math_bits_deBruijn64tab), ("internal/strconv.uint64pow10", Rows.laid_internal_strconv_uint64pow10), ("unicode/utf8.acceptRanges", Rows.laid_unicode_utf8_acceptRanges), ("unicode/utf8.first", Rows.laid_unicode_utf8_first)]
theorem no_syn : Tryz.prog.globalNamed "strconv.ErrSyntax" = none := by kernel_rfl
theorem no_rng : Tryz.prog.globalNamed "strconv.ErrRange" = none := by kernel_rfl
/-- What the list of laid variables gives the walks. -/
theorem gstd_of {W : World} {laid : List (String × DataW Unit)} (hl : laid = laidL)
    (hs : W.ShapedOpen Tryz.prog) (hL : laidMet Tryz.prog laid W) : Gstd Tryz.prog W := by
  subst hl
  obtain ⟨ps, ⟨_, _, _, _, _, _, _, _, _, _, ⟨_, _, _, _, _, _, _, _, _, _, ⟨g3, t3, cs3, f3, p3, q3, hg3, ht3, hv3, hd3, _⟩, _⟩, _⟩, _, _⟩ := hL
  refine ⟨fun g hg => ?_, fun g hg => ?_, fun g hg => ?_, fun g hg => ?_⟩
  · obtain rfl := Option.some.inj (named_maxLen.symm.trans hg)
    exact maxLen_of hs
  · obtain rfl := Option.some.inj (named_pow.symm.trans hg3)
    obtain ⟨t, e, h1, h2, h4, h5, h6⟩ := global_pow
    obtain rfl := Option.some.inj (h1.symm.trans ht3)
    unfold Lib.TabIs
    rw [hv3, ← Lib.cells_of_tab (k := .u64) (zs := Lib.pow10Tab) h2 h4 h5 h6 hd3]
  · rw [no_syn] at hg; cases hg
  · rw [no_rng] at hg; cases hg
theorem laid_plain : (laidL.all fun x => x.2.handleName?.isNone) = true := by kernel_rfl
theorem laid_met (os : Os) (args : Array Value) : laidMetH Tryz.prog laidL ((World.laidAll Tryz.prog os laidL).forCall (fun _ _ => 0) ⟨#[], args, []⟩).memory := by
  rw [MakeChecks.laidMetH_plain _ _ _ laid_plain]
  exact laidMet_laidAll _ (by kernel_rfl) (by kernel_rfl)
/-- The blocks of package variables are below. -/
theorem gblk_lt {W : World} (hs : W.ShapedOpen Tryz.prog) : ∀ b, gblk Tryz.prog b → b < W.heap.size := by
  intro b ⟨n, hn⟩
  have hb : b < Tryz.prog.globals.size := by
    unfold Program.globalNamed at hn
    split at hn
    · rename_i g hf
      cases hn
      have : b ∈ List.filter (fun g => Option.any (fun x => x.name == n) Tryz.prog.globals[g]?) (List.range Tryz.prog.globals.size) := by rw [hf]; exact List.mem_singleton_self _
      exact List.mem_range.1 (List.mem_filter.1 this).1
    · cases hn
  obtain ⟨z, t, hz⟩ : ∃ z t, (((begin Tryz.prog (fun _ _ => 0) default).world.heap[b]?).bind Obj.row?) = some (z, t) := by
    have key : ((List.range Tryz.prog.globals.size).all fun g => (((begin Tryz.prog (fun _ _ => 0) default).world.heap[g]?).bind Obj.row?).isSome) = true := by kernel_rfl
    have := List.all_eq_true.1 key b (List.mem_range.2 hb)
    obtain ⟨⟨z, t⟩, h⟩ := Option.isSome_iff_exists.1 this
    exact ⟨z, t, h⟩
  obtain ⟨cs, h1, _⟩ := hs.1 b z t hb hz
  exact (Array.getElem?_eq_some_iff.1 h1).1
end Go.Proofs.YtneapbfomhalpaaGreatDoor.T
