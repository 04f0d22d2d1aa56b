/- The engine of this session, part 21: a contract over a small memory holds in any. -/
import Derived.Test.YtknciobaifdafaaGreatDoorQC
set_option linter.unusedVariables false
set_option linter.unusedSimpArgs false
namespace Go.Pv
variable {P : Program} {R : Nat → Prop} {w0 w w' : World} {S0 : Nat → Prop} {φ φ' : Phi} {D D' : Nat → Prop} {mem : Mem}
def renC (σ : Nat → Nat) : PV → PV
  | .ref i o n => .ref (σ i) o n
  | .ptr i o => .ptr (σ i) o
  | x => x
def renA (σ : Nat → Nat) : PV → PV
  | .agg xs => .agg (xs.map (renC σ))
  | x => renC σ x
def ren (σ : Nat → Nat) : PV → PV
  | .tup xs => .tup (xs.map (renA σ))
  | x => renA σ x
def inC (n : Nat) : PV → Prop
  | .ref i _ _ => i < n
  | .ptr i _ => i < n
  | _ => True
def inA (n : Nat) : PV → Prop
  | .agg xs => ∀ z ∈ xs, inC n z
  | x => inC n x
theorem HOk.cln {x : PV} (h : HOk P x) (h1 : ∀ i o n, x ≠ .ref i o n) (h2 : ∀ i o, x ≠ .ptr i o) : Cln P x := by
  rcases h with ⟨i, o, n, rfl⟩ | ⟨i, o, rfl⟩ | h
  · exact absurd rfl (h1 _ _ _)
  · exact absurd rfl (h2 _ _)
  · exact h
theorem renC_to {σ : Nat → Nat} (hσ : ∀ i b, φ i = some b → φ' (σ i) = some b) {x : PV} {v : Value} (h : HOk P x) (hv : RV P φ D w x v) : RV P φ' D w (renC σ x) v := by
  cases x <;> first
    | exact (h.cln (fun _ _ _ e => by cases e) (fun _ _ e => by cases e)) _ _ _ _ _ hv
    | (cases hv <;> first | exact .ptr (hσ _ _ ‹_›) | exact .ref (hσ _ _ ‹_›) ‹_› ‹_› | exact .nil | exact .ref0 ‹_›)
theorem renC_of {σ : Nat → Nat} {n : Nat} (hσ : ∀ i, i < n → φ' i = φ (σ i)) {x : PV} {v : Value} (h : HOk P x) (hn : inC n x) (hv : RV P φ D w (renC σ x) v) : RV P φ' D w x v := by
  cases x <;> first
    | exact (h.cln (fun _ _ _ e => by cases e) (fun _ _ e => by cases e)) _ _ _ _ _ hv
    | (cases hv <;> first | exact .ptr ((hσ _ hn).trans ‹_›) | exact .ref ((hσ _ hn).trans ‹_›) ‹_› ‹_› | exact .nil | exact .ref0 ‹_›)
theorem renA_to {σ : Nat → Nat} (hσ : ∀ i b, φ i = some b → φ' (σ i) = some b) {x : PV} {v : Value} (h : AOk P x) (hv : RV P φ D w x v) : RV P φ' D w (renA σ x) v := by
  cases x with
  | agg xs =>
    cases hv with
    | agg hl h2 =>
      refine .agg (by simp [hl]) fun j y hj => ?_
      simp at hj
      obtain ⟨z, hz, rfl⟩ := hj
      exact renC_to hσ (h z (List.mem_of_getElem? hz)) (h2 j z hz)
  | _ => exact renC_to hσ h hv
theorem renA_of {σ : Nat → Nat} {n : Nat} (hσ : ∀ i, i < n → φ' i = φ (σ i)) {x : PV} {v : Value} (h : AOk P x) (hn : inA n x) (hv : RV P φ D w (renA σ x) v) : RV P φ' D w x v := by
  cases x with
  | agg xs =>
    cases hv with
    | agg hl h2 =>
      refine .agg (by simpa using hl) fun j z hz => ?_
      have hz' := List.mem_of_getElem? hz
      exact renC_of hσ (h z hz') (hn z hz') (h2 j (renC σ z) (by simp [hz]))
  | _ => exact renC_of hσ h hn hv
theorem ren_to {σ : Nat → Nat} (hσ : ∀ i b, φ i = some b → φ' (σ i) = some b) {x : PV} {v : Value} (h : GOk P x) (hv : RV P φ D w x v) : RV P φ' D w (ren σ x) v := by
  cases x with
  | tup xs =>
    cases hv with
    | tup hl h2 =>
      refine .tup (by simp [hl]) fun j y hj => ?_
      simp at hj
      obtain ⟨z, hz, rfl⟩ := hj
      exact renA_to hσ (h z (List.mem_of_getElem? hz)) (h2 j z hz)
  | _ => (refine renA_to hσ ?_ hv; exact h)
/-- A contract that tells less. -/
theorem Ok.weak {f : FuncId} {args : List PV} {r r' : PV} {rows rows' : List (TypeId × List PV)} (h : Ok P f args r rows) (hw : Weak P (fun _ => False) ⟨[r], rowsAt 0 rows noMem⟩ ⟨[r'], rowsAt 0 rows' noMem⟩) : Ok P f args r' rows' := fun D w vs hD hg hv =>
  (h D w vs hD hg hv).mono fun e w' ⟨v, φ', D', he, ht, hm, hr⟩ => by
    obtain ⟨φ2, D2, h1, h2, h3⟩ := hw w (fun _ => False) φ' D' w' #[v] hm ⟨rfl, fun j y hj => by
      cases j with
      | zero => simp at hj; subst hj; exact hr
      | succ j => simp at hj⟩
    exact ⟨v, φ2, D2, he, ht.trans h1, h2, h3.2 0 r' rfl⟩
/-- WHAT A FUNCTION TELLS of a few own rows of its caller: they have the names 0, 1, ..; behind it those that R names are where they were. -/
def OkS (P : Program) (f : FuncId) (args : List PV) (rin : List (TypeId × List PV)) (R : Nat → Prop) (r : PV) (rout : List (TypeId × List PV)) : Prop :=
  ∀ (w0 : World) (S0 : Nat → Prop) (φ : Phi) (D : Nat → Prop) (w : World) (vs : Array Value), MR P w0 S0 φ D (rowsAt 0 rin noMem) w → RVs P φ D w args vs →
    Calls P f vs w fun e w' => ∃ (v : Value) (φ' : Phi) (D' : Nat → Prop), e = .returned v ∧ TrW R φ D w φ' D' w' ∧ MR P w0 S0 φ' D' (rowsAt 0 rout noMem) w' ∧ RV P φ' D' w' r v
def OutS (P : Program) (R : Nat → Prop) (r : PV) (rout : List (TypeId × List PV)) (x : PV) (m : Mem) : Prop := Weak P R ⟨[x], m⟩ ⟨[r], rowsAt 0 rout noMem⟩
theorem OkS.walk {f : FuncId} {fn : Func} {c : Code} {args : List PV} {rin : List (TypeId × List PV)} {r : PV} {rout : List (TypeId × List PV)} (hf : P.funcs[f]? = some fn) (hb : fn.body = some c)
    (h : W P R c (startSt fn args (rowsAt 0 rin noMem)) (Ends P fn (OutS P R r rout))) : OkS P f args rin R r rout := fun w0 S0 φ D w vs hm ha =>
  calls_of_W hf hb hm ha h fun v x mem' φ' D' w' h1 h2 h3 h4 => by
    obtain ⟨φ2, D2, h5, h6, h7⟩ := h1 w0 S0 φ' D' w' #[v] h3 ⟨rfl, fun j y hj => by
      cases j with
      | zero => simp at hj; subst hj; exact h4
      | succ j => simp at hj⟩
    exact ⟨v, φ2, D2, rfl, h2.trans h5, h6, h7.2 0 r rfl⟩
theorem rowsAt_row {l : List (TypeId × List PV)} {i : Nat} {t : TypeId} {xs : List PV} (h : rowsAt 0 l noMem i = .row t xs) : i < l.length ∧ l[i]? = some (t, xs) := by
  rcases Nat.lt_or_ge i l.length with hi | hi
  · refine ⟨hi, ?_⟩
    have := rowsAt_in l 0 noMem i _ (List.getElem?_eq_getElem hi)
    rw [Nat.zero_add, h] at this
    injection this with h1 h2
    rw [List.getElem?_eq_getElem hi, h1, h2]
  · rw [rowsAt_out l 0 noMem i (by omega)] at h
    cases h
/-- The frame rule. -/
theorem CallM.frame {f : FuncId} {args : List PV} {rin : List (TypeId × List PV)} {r : PV} {rout : List (TypeId × List PV)} (σ σ' : Nat → Nat) (m' : Mem) (hok : OkS P f args rin R r rout)
    (hmem : ∀ i e, rin[i]? = some e → mem (σ i) = .row e.1 (e.2.map (renC σ))) (hinj : ∀ i j, i < rin.length → j < rin.length → σ i = σ j → i = j)
    (harg : ∀ x ∈ args, AOk P x ∧ inA rin.length x) (hrin : ∀ e ∈ rin, ∀ z ∈ e.2, HOk P z ∧ inC rin.length z)
    (hnew : ∀ j, j < rout.length → (R j ∧ j < rin.length ∧ σ' j = σ j) ∨ mem (σ' j) = .free) (hinj' : ∀ i j, i < rout.length → j < rout.length → σ' i = σ' j → i = j)
    (hr : GOk P r) (hrout : ∀ e ∈ rout, ∀ z ∈ e.2, HOk P z)
    (h1 : ∀ j e, rout[j]? = some e → m' (σ' j) = .row e.1 (e.2.map (renC σ'))) (h2 : ∀ k, (∀ j, j < rout.length → σ' j ≠ k) → m' k = mem k ∨ (∃ i, i < rin.length ∧ σ i = k) ∧ m' k = .dead)
    (h3 : ∀ i, i < rin.length → (∀ j, j < rout.length → σ' j ≠ σ i) → m' (σ i) = .dead) : CallM P f (args.map (renA σ)) mem fun y m => y = ren σ' r ∧ m = m' := by
  intro w0 S0 φ D w vs hm ha
  let φs : Phi := fun i => if i < rin.length then φ (σ i) else none
  have es : ∀ i, i < rin.length → φs i = φ (σ i) := fun i hi => if_pos hi
  have hs : ∀ i b, φs i = some b → i < rin.length ∧ φ (σ i) = some b := fun i b hb => by
    by_cases hi : i < rin.length
    · exact ⟨hi, by rw [← es i hi]; exact hb⟩
    · have : φs i = none := if_neg hi
      rw [this] at hb; cases hb
  let Ss : Nat → Prop := fun b => ∃ i, i < rin.length ∧ φ (σ i) = some b
  have hms : MR P w Ss φs D (rowsAt 0 rin noMem) w := by
    refine ⟨rfl, rfl, rfl, Nat.le_refl _, fun _ _ _ => rfl, fun i t xs hi => ?_, fun i j t xs t' xs' b hi hj hbi hbj => ?_, hm.dlt, fun i hi => ?_, hm.gl⟩
    · obtain ⟨hlt, he⟩ := rowsAt_row hi
      have hrow := hmem i _ he
      rcases hm.row _ _ _ hrow with ⟨h0, hn⟩ | ⟨bl, cs, hra⟩
      · exact .inl ⟨by simpa using h0, (es i hlt).trans hn⟩
      · refine .inr ⟨bl, cs, (es i hlt).trans hra.phi, hra.heap, by simpa using hra.len, fun j z hz => ?_, hra.own, .inr ⟨i, hlt, hra.phi⟩⟩
        have hz' := List.mem_of_getElem? hz
        have := hrin _ (List.mem_of_getElem? he) z hz'
        exact renC_of es this.1 this.2 (hra.cells j (renC σ z) (by simp [hz]))
    · obtain ⟨hli, hei⟩ := rowsAt_row hi
      obtain ⟨hlj, hej⟩ := rowsAt_row hj
      exact hinj i j hli hlj (hm.inj _ _ _ _ _ _ b (hmem i _ hei) (hmem j _ hej) (hs i b hbi).2 (hs j b hbj).2)
    · rcases Nat.lt_or_ge i rin.length with hlt | hge
      · have := rowsAt_in rin 0 noMem i _ (List.getElem?_eq_getElem hlt)
        rw [Nat.zero_add, hi] at this
        cases this
      · exact if_neg (by omega)
  have has : RVs P φs D w args vs := ⟨by simpa using ha.1, fun j x hx => by
    have hx' := harg x (List.mem_of_getElem? hx)
    exact renA_of es hx'.1 hx'.2 (ha.2 j (renA σ x) (by simp [hx]))⟩
  refine (hok w Ss φs D w vs hms has).mono fun e w' ⟨v, φ2, D2, he, ht, hm2, hv⟩ => ?_
  let inv : Nat → Option Nat := fun k => (List.range rout.length).find? fun j => σ' j == k
  have hinv : ∀ j, j < rout.length → inv (σ' j) = some j := fun j hj => by
    have hex : (inv (σ' j)).isSome = true := by
      rw [List.find?_isSome]
      exact ⟨j, List.mem_range.2 hj, by simp⟩
    obtain ⟨q, hq⟩ := Option.isSome_iff_exists.1 hex
    have h4 := List.find?_some hq
    have h5 := List.mem_range.1 (List.mem_of_find?_eq_some hq)
    rw [hq, hinj' q j h5 hj (by simpa using h4)]
  have hinv' : ∀ k q, inv k = some q → q < rout.length ∧ σ' q = k := fun k q hq => ⟨List.mem_range.1 (List.mem_of_find?_eq_some hq), by have := List.find?_some hq; simpa using this⟩
  let φ' : Phi := fun k => match inv k with | some j => φ2 j | none => φ k
  have p1 : ∀ j, j < rout.length → φ' (σ' j) = φ2 j := fun j hj => by show (match inv (σ' j) with | some j => φ2 j | none => φ (σ' j)) = _; rw [hinv j hj]
  have p0 : ∀ k, (∀ j, j < rout.length → σ' j ≠ k) → φ' k = φ k := fun k hk => by
    show (match inv k with | some j => φ2 j | none => φ k) = _
    cases hq : inv k with
    | none => rfl
    | some q => exact absurd (hinv' k q hq).2 (hk q (hinv' k q hq).1)
  have hφ2 : ∀ j b, φ2 j = some b → j < rout.length := fun j b hb => by
    rcases Nat.lt_or_ge j rout.length with h | h
    · exact h
    · rw [hm2.free j (rowsAt_out rout 0 noMem j (by omega))] at hb; cases hb
  have hblk : ∀ j b, φ2 j = some b → w.heap.size ≤ b ∨ Ss b := fun j b hb => by
    have hj := hφ2 j b hb
    have hrow := rowsAt_in rout 0 noMem j _ (List.getElem?_eq_getElem hj)
    rw [Nat.zero_add] at hrow
    obtain ⟨cs, hra⟩ := hm2.rowAt hrow hb
    exact hra.new
  have hphi : ∀ k b, φ k = some b → φ' k = some b := fun k b hb => by
    by_cases hk : ∃ j, j < rout.length ∧ σ' j = k
    · obtain ⟨j, hj, rfl⟩ := hk
      rw [p1 j hj]
      rcases hnew j hj with ⟨hR, hlt, e⟩ | hf
      · rw [e] at hb
        exact ht.phi j b hR ((es j hlt).trans hb)
      · rw [hm.free _ hf] at hb; cases hb
    · rw [p0 k fun j hj e => hk ⟨j, hj, e⟩]; exact hb
  have htr : Tr φ D w φ' D2 w' := ⟨fun k b _ hb => hphi k b hb, ht.dd, ht.same, ht.shape, ht.size, fun b hb => by
      rcases ht.dnew b hb with h | h | ⟨i, h⟩
      · exact .inl h
      · exact .inr (.inl h)
      · exact .inr (.inr ⟨_, (hs i b h).2⟩),
    fun k b hb => by
      by_cases hk : ∃ j, j < rout.length ∧ σ' j = k
      · obtain ⟨j, hj, rfl⟩ := hk
        rw [p1 j hj] at hb
        rcases hblk j b hb with h | ⟨i, _, h⟩
        · exact .inl h
        · exact .inr ⟨_, h⟩
      · rw [p0 k fun j hj e => hk ⟨j, hj, e⟩] at hb; exact .inr ⟨k, hb⟩⟩
  have hkeep : ∀ b : Nat, b < w.heap.size → ¬ Ss b → w'.heap[b]? = w.heap[b]? := hm2.keep
  -- a row of the caller's that is none of the few
  have hoth : ∀ k t xs b, mem k = .row t xs → (∀ i, i < rin.length → σ i ≠ k) → φ k = some b → b < w.heap.size ∧ ¬ Ss b := fun k t xs b hk hne hb => by
    refine ⟨hm.phi_lt hk hb, fun ⟨i, hi, hbi⟩ => hne i hi ?_⟩
    exact hm.inj _ _ _ _ _ _ b (hmem i _ (List.getElem?_eq_getElem hi)) hk hbi hb
  have hcase : ∀ k t xs, m' k = .row t xs → (∃ j e, rout[j]? = some e ∧ σ' j = k ∧ t = e.1 ∧ xs = e.2.map (renC σ')) ∨ ((∀ j, j < rout.length → σ' j ≠ k) ∧ (∀ i, i < rin.length → σ i ≠ k) ∧ mem k = .row t xs) := fun k t xs hk => by
    by_cases hq : ∃ j, j < rout.length ∧ σ' j = k
    · obtain ⟨j, hj, rfl⟩ := hq
      have := h1 j _ (List.getElem?_eq_getElem hj)
      rw [hk] at this
      injection this with e1 e2
      exact .inl ⟨j, _, List.getElem?_eq_getElem hj, rfl, e1, e2⟩
    · have hq' : ∀ j, j < rout.length → σ' j ≠ k := fun j hj e => hq ⟨j, hj, e⟩
      refine .inr ⟨hq', fun i hi e => ?_, ?_⟩
      · have := h3 i hi (fun j hj => by rw [e]; exact hq' j hj)
        rw [e, hk] at this; cases this
      · rcases h2 k hq' with h | ⟨_, h⟩
        · rw [← h]; exact hk
        · rw [hk] at h; cases h
  refine ⟨v, _, _, φ', D2, he, ⟨rfl, rfl⟩, htr, ?_, ren_to (fun i b hb => by rw [p1 i (hφ2 i b hb)]; exact hb) hr hv⟩
  refine ⟨hm2.os.trans hm.os, hm2.tape.trans hm.tape, hm2.output.trans hm.output, Nat.le_trans hm.size hm2.size, fun b hb hS => ?_, fun k t xs hk => ?_, fun k l t xs t' xs' b hk hl hbk hbl => ?_, hm2.dlt, fun k hk => ?_, hm2.gl⟩
  · rw [hkeep b (Nat.lt_of_lt_of_le hb hm.size) ?_]
    · exact hm.keep b hb hS
    · rintro ⟨i, hi, hbi⟩
      obtain ⟨cs, hra⟩ := hm.rowAt (hmem i _ (List.getElem?_eq_getElem hi)) hbi
      rcases hra.new with h | h
      · omega
      · exact hS h
  · rcases hcase k t xs hk with ⟨j, e, hj, rfl, rfl, rfl⟩ | ⟨ho, hi, hmk⟩
    · have hlt := (List.getElem?_eq_some_iff.1 hj).1
      have hrow := rowsAt_in rout 0 noMem j _ hj
      rw [Nat.zero_add] at hrow
      rcases hm2.row _ _ _ hrow with ⟨h0, hn⟩ | ⟨bl, cs, hra⟩
      · exact .inl ⟨by simp [h0], (p1 j hlt).trans hn⟩
      · refine .inr ⟨bl, cs, (p1 j hlt).trans hra.phi, hra.heap, by simpa using hra.len, fun q z hz => ?_, hra.own, ?_⟩
        · simp at hz
          obtain ⟨u, hu, rfl⟩ := hz
          exact renC_to (fun i b hb => by rw [p1 i (hφ2 i b hb)]; exact hb) (hrout e (List.mem_of_getElem? hj) u (List.mem_of_getElem? hu)) (hra.cells q u hu)
        · rcases hra.new with h | ⟨i, hi, hbi⟩
          · exact .inl (Nat.le_trans hm.size h)
          · obtain ⟨cs2, hra2⟩ := hm.rowAt (hmem i _ (List.getElem?_eq_getElem hi)) hbi
            exact hra2.new
    · rcases hm.row _ _ _ hmk with ⟨h0, hn⟩ | ⟨bl, cs, hra⟩
      · exact .inl ⟨h0, (p0 k ho).trans hn⟩
      · have hb := hoth k t xs bl hmk hi hra.phi
        refine .inr ⟨bl, cs, (p0 k ho).trans hra.phi, (hkeep bl hb.1 hb.2).trans hra.heap, hra.len, fun q z hz => (hra.cells q z hz).mono htr, fun hd => ?_, hra.new⟩
        rcases ht.dnew bl hd with h | h | ⟨i, h⟩
        · exact hra.own h
        · omega
        · obtain ⟨hi2, h⟩ := hs i bl h
          exact hb.2 ⟨i, hi2, h⟩
  · rcases hcase k t xs hk with ⟨j, e, hj, rfl, _, _⟩ | ⟨ho, hi, hmk⟩ <;> rcases hcase l t' xs' hl with ⟨j2, e2, hj2, rfl, _, _⟩ | ⟨ho2, hi2, hml⟩
    · have hlt := (List.getElem?_eq_some_iff.1 hj).1
      have hlt2 := (List.getElem?_eq_some_iff.1 hj2).1
      rw [p1 j hlt] at hbk
      rw [p1 j2 hlt2] at hbl
      have r1 := rowsAt_in rout 0 noMem j _ hj
      have r2 := rowsAt_in rout 0 noMem j2 _ hj2
      rw [Nat.zero_add] at r1 r2
      rw [hm2.inj _ _ _ _ _ _ b r1 r2 hbk hbl]
    · have hlt := (List.getElem?_eq_some_iff.1 hj).1
      rw [p1 j hlt] at hbk
      rw [p0 l ho2] at hbl
      have := hoth l _ _ b hml hi2 hbl
      rcases hblk j b hbk with h | h
      · omega
      · exact absurd h this.2
    · have hlt2 := (List.getElem?_eq_some_iff.1 hj2).1
      rw [p1 j2 hlt2] at hbl
      rw [p0 k ho] at hbk
      have := hoth k _ _ b hmk hi hbk
      rcases hblk j2 b hbl with h | h
      · omega
      · exact absurd h this.2
    · rw [p0 k ho] at hbk
      rw [p0 l ho2] at hbl
      exact hm.inj _ _ _ _ _ _ b hmk hml hbk hbl
  · by_cases hq : ∃ j, j < rout.length ∧ σ' j = k
    · obtain ⟨j, hj, rfl⟩ := hq
      have := h1 j _ (List.getElem?_eq_getElem hj)
      rw [hk] at this; cases this
    · have hq' : ∀ j, j < rout.length → σ' j ≠ k := fun j hj e => hq ⟨j, hj, e⟩
      rw [p0 k hq']
      rcases h2 k hq' with h | ⟨_, h⟩
      · exact hm.free k (by rw [← h]; exact hk)
      · rw [hk] at h; cases h
end Go.Pv
