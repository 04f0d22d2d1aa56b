/- The program's StoreOk returns what the reference's returns, for all arguments; its row, and its card. -/
import Derived.Test.YthmmlmjmkanocaaGreatDoorCards
import Derived.Test.YthmmlmjmkanocaaGreatDoorTie
import Derived.Test.YthmmlmjmkanocaaGreatDoorQV4
import Derived.Test.YthmmlmjmkanocaaGreatDoorQD
import Derived.Test.YthmmlmjmkanocaaGreatDoorQW1
set_option linter.unusedVariables false
set_option linter.unusedSimpArgs false
set_option maxRecDepth 100000
namespace Go.Proofs.YthmmlmjmkanocaaGreatDoor.T
open Go Go.Pv Go.ChangeShapes Go.WideShapes Go.ChangeAt Go.RowKit
theorem flat_vS (l : List ByteArray) : (l.flatMap fun s => [vS s]) = l.map vS := by
  induction l with
  | nil => rfl
  | cons x l ih => rw [List.flatMap_cons, ih]; rfl
theorem strsO : OpensP Tryz.prog 22 (fun l : List ByteArray => [.val l.length (l.map vS)]) 1 (fun l => l.length ≤ maxLen ∧ ∀ x ∈ l, x.size ≤ maxLen) :=
  opensP_iso (opensP_slice Tryz.underlying22 (by kernel_rfl) (by decide) (opensP_string Tryz.underlying9 (by kernel_rfl))) id id (fun _ => rfl) (fun l => by rw [id, flat_vS])
theorem waitO : OpensP Tryz.prog 93 cWt 2 (fun x => True ∧ x.text.size ≤ maxLen) :=
  opensP_iso (opensP_struct Tryz.underlying93 (by kernel_rfl) (fieldsP_cons (opensP_int Tryz.underlying3 (by kernel_rfl)) rfl (fieldsP_one (opensP_string Tryz.underlying9 (by kernel_rfl)) rfl))) (fun x : Wt => (x.cell, x.text)) (fun p => ⟨p.1, p.2⟩) (fun _ => rfl) (fun _ => rfl)
theorem waitsO : OpensP Tryz.prog 23 (fun l : List Wt => [.val l.length (l.flatMap cWt)]) 1 (fun l => l.length ≤ maxLen ∧ ∀ x ∈ l, (True ∧ x.text.size ≤ maxLen)) :=
  opensP_slice Tryz.underlying23 (by kernel_rfl) (by decide) waitO
def cDk (d : Dk) : List PV := [.val d.cells.length (d.cells.map vS), .val d.waits.length (d.waits.flatMap cWt), vI d.room, vI d.left]
def DkG (d : Dk) : Prop := (d.cells.length ≤ maxLen ∧ ∀ x ∈ d.cells, x.size ≤ maxLen) ∧ (d.waits.length ≤ maxLen ∧ ∀ x ∈ d.waits, (True ∧ x.text.size ≤ maxLen)) ∧ True ∧ True
theorem diskO : OpensP Tryz.prog 25 cDk 4 DkG :=
  opensP_iso (opensP_struct Tryz.underlying25 (by kernel_rfl) (fieldsP_cons strsO rfl (fieldsP_cons waitsO rfl (fieldsP_cons (opensP_int Tryz.underlying3 (by kernel_rfl)) rfl (fieldsP_one (opensP_int Tryz.underlying3 (by kernel_rfl)) rfl)))))
    (fun d : Dk => (d.cells, d.waits, d.room, d.left)) (fun p => ⟨p.1, p.2.1, p.2.2.1, p.2.2.2⟩) (fun _ => rfl) (fun _ => rfl)
def cStor (s : Stor) : List PV := [.val s.disk.cells.length (s.disk.cells.map vS), .val s.disk.waits.length (s.disk.waits.flatMap cWt), vI s.disk.room, vI s.disk.left, vI s.turn, vI s.tries, vI s.next, .val s.pages.length (s.pages.map vS)]
def StG (s : Stor) : Prop := DkG s.disk ∧ True ∧ True ∧ True ∧ (s.pages.length ≤ maxLen ∧ ∀ x ∈ s.pages, x.size ≤ maxLen)
theorem storeO : OpensP Tryz.prog 27 cStor 8 StG :=
  opensP_iso (opensP_struct Tryz.underlying27 (by kernel_rfl) (fieldsP_cons diskO rfl (fieldsP_cons (opensP_int Tryz.underlying3 (by kernel_rfl)) rfl (fieldsP_cons (opensP_int Tryz.underlying3 (by kernel_rfl)) rfl (fieldsP_cons (opensP_int Tryz.underlying3 (by kernel_rfl)) rfl (fieldsP_one strsO rfl))))))
    (fun s : Stor => (s.disk, s.turn, s.tries, s.next, s.pages)) (fun p => ⟨p.1, p.2.1, p.2.2.1, p.2.2.2.1, p.2.2.2.2⟩) (fun _ => rfl) (fun _ => rfl)
theorem RVs_one {P : Program} {φ : Phi} {D : Nat → Prop} {w : World} {x : PV} {v : Value} (h : RV P φ D w x v) : RVs P φ D w [x] #[v] := ⟨rfl, fun j y hy => by
  cases j with
  | zero => simp at hy; subst hy; exact h
  | succ j => simp at hy⟩
theorem maxLen_le : maxLen ≤ 9223372036854775807 := by decide
theorem getD_le {l : List ByteArray} (h : ∀ x ∈ l, x.size ≤ maxLen) (k : Nat) : (l.getD k ByteArray.empty).size ≤ 9223372036854775807 := by
  have := maxLen_le
  rcases Nat.lt_or_ge k l.length with hk | hk
  · have := h _ (mem_getD (d := ByteArray.empty) hk); omega
  · rw [List.getD_eq_getElem?_getD, List.getElem?_eq_none hk]; exact Nat.zero_le _
theorem getDW_le {l : List Wt} (h : ∀ x ∈ l, (True ∧ x.text.size ≤ maxLen)) (k : Nat) : (l.getD k wt0).text.size ≤ 9223372036854775807 := by
  have := maxLen_le
  rcases Nat.lt_or_ge k l.length with hk | hk
  · have := (h _ (mem_getD (d := wt0) hk)).2; omega
  · rw [List.getD_eq_getElem?_getD, List.getElem?_eq_none hk]; exact Nat.zero_le _
theorem StG.in {s : Stor} (h : StG s) : StIn s := by
  have := maxLen_le
  obtain ⟨⟨⟨h1, h2⟩, ⟨h3, h4⟩, _⟩, _, _, _, h5, h6⟩ := h
  exact ⟨⟨by omega, getD_le h2, by omega, getDW_le h4⟩, by omega, getD_le h6⟩
abbrev laidL : List (String × DataW Unit) := [("math/bits.deBruijn32tab", Rows.laid_math_bits_deBruijn32tab), ("math/bits.deBruijn64tab", Rows.laid_math_bits_deBruijn64tab), ("internal/strconv.uint64pow10", Rows.laid_internal_strconv_uint64pow10), ("unicode/utf8.acceptRanges", Rows.laid_unicode_utf8_acceptRanges), ("strconv.ErrRange", Rows.laid_strconv_ErrRange), ("strconv.ErrSyntax", Rows.laid_strconv_ErrSyntax), ("unicode/utf8.first", Rows.laid_unicode_utf8_first)]
theorem laid_plain : (laidL.all fun x => x.2.handleName?.isNone) = true := by kernel_rfl
theorem laid_met (os : Os) (args : Array Value) : laidMetH Tryz.prog laidL ((World.laidAll Tryz.prog os laidL).forCall (fun _ _ => 0) ⟨#[], args, []⟩).memory := by
  rw [MakeChecks.laidMetH_plain _ _ _ laid_plain]
  exact laidMet_laidAll _ (by kernel_rfl) (by kernel_rfl)
theorem ok_lifted (os : Os) (started : os.Started) (H : Type) (enc : TypeId × Value → H) :
    ReturnsInHanded {} Tryz.checked os 3 .any (fun w args => (Rows.fnExactStoreOkSpec.pre enc Tryz.prog Tryz.f3 [] false w args ∧ laidMetH Tryz.prog laidL w) ∧ sizedMet enc Tryz.prog Tryz.f3 (OpenSpec.ofChange Rows.fnExactStoreOkSpec) false w args)
      (Rows.fnExactStoreOkSpec.post enc Tryz.prog Tryz.f3 false true false false) := by
  refine returns_shaped (C := Tryz.checked) (X := fun w _ => laidMetH Tryz.prog laidL w) (fun _ _ _ hh h => h.of_heap hh) own started (by kernel_rfl) Tryz.func3
    (ChangeSpec.witness_shaped (enc := enc) (C := Tryz.checked) (os := os) (X := fun w _ => laidMetH Tryz.prog laidL w) false (World.laidAll Tryz.prog os laidL) #[.agg #[.slice none 0 0, .slice none 0 0, .int .i64 0, .int .i64 0, .int .i64 0, .int .i64 0, .int .i64 0, .slice none 0 0]] 8 rfl (World.shaped_of_ZipB (by kernel_rfl) (by kernel_rfl)) (by kernel_rfl) (by kernel_rfl) (by kernel_rfl) (laid_met os _)) ?_
  intro W base args ds gs before hsh hval0 hW hL
  have hval : ∀ (j : Nat) t v, Tryz.f3.params[j]? = some t → args[j]? = some v → Value.okWide Tryz.prog W .any base t v := hval0
  have hW' := hW
  obtain ⟨p, q, hA0, hV, rfl, hfz, hnd⟩ := hW
  have hA : DataW.TrodAll enc Tryz.prog W 0 (fun _ => true) true Tryz.f3.params.toList args.toList ds p := hA0
  rw [Tryz.params3] at hA hval
  obtain ⟨v0, vs0, d0, ds0, p0, q0, hargs, rfl, rfl, h0, r0⟩ := trodAll_cons hA
  obtain ⟨rfl, rfl, rfl⟩ := trodAll_nil r0
  obtain rfl : args = #[v0] := by cases args; simp_all
  obtain ⟨rfl, rfl⟩ := trodVars_none hV
  obtain ⟨cs0, rfl⟩ := okWideP_agg Tryz.underlying27 (hval 0 27 v0 rfl rfl)
  obtain ⟨s, hr, hG⟩ := opensP_arg storeO h0
  have lt0 : ∀ x ∈ p0, x.block < W.heap.size := by obtain ⟨m, hm⟩ := h0; exact DataW.trod_lt m _ _ _ hm
  rw [MakeChecks.laidMetH_plain _ _ _ laid_plain] at hL
  refine (lawOk_ok s hG.in (storeOk_eq s) (fun b => b < W.heap.size) W #[.agg cs0] (fun _ h => h) ⟨gblk_lt hsh, gstd_of rfl hsh hL⟩ ?_).mono fun e W' he => ?_
  · exact RVs_one hr
  · obtain ⟨v, φ', D', he, tr, mr, hv⟩ := he
    cases hv
    have bel : Below W.heap.size W W' := ⟨mr.os, mr.tape, mr.output, mr.size, fun k hk => tr.same k hk⟩
    exact ⟨_, he, _, _, _, [], _, [], hW', trodAll_mk1 (shut_bool Tryz.underlying4 _), (trodAll_cons_mk (Below.trod laidOut (by kernel_rfl) (of_decide_eq_true (by kernel_rfl)) h0 bel lt0) trodAll_mk0), rfl, bel.frame _, fun h => by cases h⟩
theorem fnExactStoreOk_row : Rows.FnExactStoreOkSaid :=
  OpenClaim.holds_of_wide 3 Tryz.f3 rfl rfl rfl rfl rfl rfl rfl ⟨rfl, rfl, rfl, rfl, rfl⟩ rfl rfl rfl rfl rfl (by kernel_rfl) Tryz.func3 (by kernel_rfl)
    (of_decide_eq_true (by kernel_rfl)) (by unfold Func.isWrapper; first | (rw [if_pos (by decide +kernel)]; kernel_rfl) | (rw [if_neg (by decide +kernel)]; exact ⟨rfl, rfl⟩))
    (fun os started H enc _ => ok_lifted os started H enc)
end Go.Proofs.YthmmlmjmkanocaaGreatDoor.T
namespace Go.Proofs.YthmmlmjmkanocaaGreatDoor
open Go
theorem fnExactStoreOk_card : Rows.FnExactStoreOkCardSaid :=
  Claim7.holds_tied_plain_at .later [] [.data, .data, .data, .data, .sentinel, .sentinel, .pinned] true (true, "8b7b0f313043646b857b6351e6f1eb71e8ed07ce02aae4ae7278ef74cf2e2ff7") true
    T.fnExactStoreOk_row (fun _ h => by cases h) (by kernel_rfl) (fun _ h => by cases h) fnExactStoreOk_row_tie rfl ⟨rfl, rfl⟩ (by kernel_rfl) rfl
    (fun f fn hf hfn => by
      obtain rfl : f = 3 := Option.some.inj ((show Tryz.prog.funcNamed "loop.example/jetton/laws.FnExactStoreOk" = some 3 by kernel_rfl).symm.trans hf) |>.symm
      obtain rfl : fn = Tryz.f3 := (Option.some.inj (Tryz.func3.symm.trans hfn)).symm
      exact ⟨by kernel_rfl, fun j t ht => by
        rw [Tryz.params3] at ht
        have h3 : t = 27 := by
          rcases j with _ | j
          · simpa using ht.symm
          · simp at ht
        subst h3
        exact (show Tryz.prog.wantsStandIn 27 = false by kernel_rfl)⟩)
    (by kernel_rfl)
#print axioms fnExactStoreOk_card
end Go.Proofs.YthmmlmjmkanocaaGreatDoor
