/- The engine of this session, part 21: a contract over a small memory holds in any. -/
import Derived.Test.YtknciobaifdafaaGreatDoorQC
import Derived.Test.YtknciobaifdafaaGreatDoorQM
set_option linter.unusedVariables false
set_option linter.unusedSimpArgs false
namespace Go.Pv
variable {P : Program} {R : Nat → Prop} {w0 w w' : World} {S0 : Nat → Prop} {φ φ' : Phi} {D D' : Nat → Prop} {mem : Mem}
def renC (σ : Nat → Nat) : PV → PV
  | .ref i o n => .ref (σ i) o n
  | .ptr i o => .ptr (σ i) o
  | x => x
def renA (σ : Nat → Nat) : PV → PV
  | .agg xs => .agg (xs.map (renC σ))
  | x => renC σ x
def ren (σ : Nat → Nat) : PV → PV
  | .tup xs => .tup (xs.map (renA σ))
  | x => renA σ x
def inC (n : Nat) : PV → Prop
  | .ref i _ _ => i < n
  | .ptr i _ => i < n
  | _ => True
def inA (n : Nat) : PV → Prop
  | .agg xs => ∀ z ∈ xs, inC n z
  | x => inC n x
theorem HOk.cln {x : PV} (h : HOk P x) (h1 : ∀ i o n, x ≠ .ref i o n) (h2 : ∀ i o, x ≠ .ptr i o) : Cln P x := by
  rcases h with ⟨i, o, n, rfl⟩ | ⟨i, o, rfl⟩ | h
  · exact absurd rfl (h1 _ _ _)
  · exact absurd rfl (h2 _ _)
  · exact h
theorem DX {σ : Nat → Nat} (hσ : ∀ i b, φ i = some b → φ' (σ i) = some b) {x : PV} {v : Value} (h : HOk P x) (hv : RV P φ D w x v) : RV P φ' D w (renC σ x) v := by
  cases x <;> first
    | exact (h.cln (fun _ _ _ e => by cases e) (fun _ _ e => by cases e)) _ _ _ _ _ hv
    | (cases hv <;> first | exact .ptr (hσ _ _ ‹_›) | exact .ref (hσ _ _ ‹_›) ‹_› ‹_› | exact .nil | exact .ref0 ‹_›)
theorem DY {σ : Nat → Nat} {n : Nat} (hσ : ∀ i, i < n → φ' i = φ (σ i)) {x : PV} {v : Value} (h : HOk P x) (hn : inC n x) (hv : RV P φ D w (renC σ x) v) : RV P φ' D w x v := by
  cases x <;> first
    | exact (h.cln (fun _ _ _ e => by cases e) (fun _ _ e => by cases e)) _ _ _ _ _ hv
    | (cases hv <;> first | exact .ptr ((hσ _ hn).trans ‹_›) | exact .ref ((hσ _ hn).trans ‹_›) ‹_› ‹_› | exact .nil | exact .ref0 ‹_›)
theorem Je {σ : Nat → Nat} (hσ : ∀ i b, φ i = some b → φ' (σ i) = some b) {x : PV} {v : Value} (h : AOk P x) (hv : RV P φ D w x v) : RV P φ' D w (renA σ x) v := by
  cases x with
  | agg xs =>
    cases hv with
    | agg hl h2 =>
      refine .agg (by simp [hl]) fun j y hj => ?_
      simp at hj
      obtain ⟨z, hz, rfl⟩ := hj
      exact DX hσ (h z (List.mem_of_getElem? hz)) (h2 j z hz)
  | _ => exact DX hσ h hv
theorem Oy {σ : Nat → Nat} {n : Nat} (hσ : ∀ i, i < n → φ' i = φ (σ i)) {x : PV} {v : Value} (h : AOk P x) (hn : inA n x) (hv : RV P φ D w (renA σ x) v) : RV P φ' D w x v := by
  cases x with
  | agg xs =>
    cases hv with
    | agg hl h2 =>
      refine .agg (by simpa using hl) fun j z hz => ?_
      have hz' := List.mem_of_getElem? hz
      exact DY hσ (h z hz') (hn z hz') (h2 j (renC σ z) (by simp [hz]))
  | _ => exact DY hσ h hn hv
theorem Qc {σ : Nat → Nat} (hσ : ∀ i b, φ i = some b → φ' (σ i) = some b) {x : PV} {v : Value} (h : GOk P x) (hv : RV P φ D w x v) : RV P φ' D w (ren σ x) v := by
  cases x with
  | tup xs =>
    cases hv with
    | tup hl h2 =>
      refine .tup (by simp [hl]) fun j y hj => ?_
      simp at hj
      obtain ⟨z, hz, rfl⟩ := hj
      exact Je hσ (h z (List.mem_of_getElem? hz)) (h2 j z hz)
  | _ => (refine Je hσ ?_ hv; exact h)
theorem Ok.weak {f : FuncId} {args : List PV} {r r' : PV} {rows rows' : List (TypeId × List PV)} (h : Ok P f args r rows) (hw : Weak P (fun _ => False) ⟨[r], aH 0 rows bM⟩ ⟨[r'], aH 0 rows' bM⟩) : Ok P f args r' rows' := fun D w vs hD hg hv =>
  (h D w vs hD hg hv).mono fun e w' ⟨v, φ', D', he, ht, hm, hr⟩ => by
    obtain ⟨φ2, D2, h1, h2, h3⟩ := hw w (fun _ => False) φ' D' w' #[v] hm ⟨rfl, fun j y hj => by
      cases j with
      | zero => simp at hj; subst hj; exact hr
      | succ j => simp at hj⟩
    exact ⟨v, φ2, D2, he, ht.trans h1, h2, h3.2 0 r' rfl⟩
def OkS (P : Program) (f : FuncId) (args : List PV) (rin : List (TypeId × List PV)) (R : Nat → Prop) (r : PV) (rout : List (TypeId × List PV)) : Prop :=
  ∀ (w0 : World) (S0 : Nat → Prop) (φ : Phi) (D : Nat → Prop) (w : World) (vs : Array Value), MR P w0 S0 φ D (aH 0 rin bM) w → RVs P φ D w args vs →
    Calls P f vs w fun e w' => ∃ (v : Value) (φ' : Phi) (D' : Nat → Prop), e = .returned v ∧ TrW R φ D w φ' D' w' ∧ MR P w0 S0 φ' D' (aH 0 rout bM) w' ∧ RV P φ' D' w' r v
def OutS (P : Program) (R : Nat → Prop) (r : PV) (rout : List (TypeId × List PV)) (x : PV) (m : Mem) : Prop := Weak P R ⟨[x], m⟩ ⟨[r], aH 0 rout bM⟩
theorem OkS.walk {f : FuncId} {fn : Func} {c : Code} {args : List PV} {rin : List (TypeId × List PV)} {r : PV} {rout : List (TypeId × List PV)} (hf : P.funcs[f]? = some fn) (hb : fn.body = some c)
    (h : W P R c (kU fn args (aH 0 rin bM)) (Ends P fn (OutS P R r rout))) : OkS P f args rin R r rout := fun w0 S0 φ D w vs hm ha =>
  uj hf hb hm ha h fun v x mem' φ' D' w' h1 h2 h3 h4 => by
    obtain ⟨φ2, D2, h5, h6, h7⟩ := h1 w0 S0 φ' D' w' #[v] h3 ⟨rfl, fun j y hj => by
      cases j with
      | zero => simp at hj; subst hj; exact h4
      | succ j => simp at hj⟩
    exact ⟨v, φ2, D2, rfl, h2.trans h5, h6, h7.2 0 r rfl⟩
theorem ul {l : List (TypeId × List PV)} {i : Nat} {t : TypeId} {xs : List PV} (h : aH 0 l bM i = .row t xs) : i < l.length ∧ l[i]? = some (t, xs) := by
  rcases Nat.lt_or_ge i l.length with hi | hi
  · refine ⟨hi, ?_⟩
    have := eF l 0 bM i _ (List.getElem?_eq_getElem hi)
    rw [Nat.zero_add, h] at this
    injection this with h1 h2
    rw [List.getElem?_eq_getElem hi, h1, h2]
  · rw [jw l 0 bM i (by omega)] at h
    cases h
theorem aK.frame {f : FuncId} {args : List PV} {rin : List (TypeId × List PV)} {r : PV} {rout : List (TypeId × List PV)} (σ σ' : Nat → Nat) (m' : Mem) (hok : OkS P f args rin R r rout)
    (hmem : ∀ i e, rin[i]? = some e → mem (σ i) = .row e.1 (e.2.map (renC σ))) (hinj : ∀ i j, i < rin.length → j < rin.length → σ i = σ j → i = j)
    (harg : ∀ x ∈ args, AOk P x ∧ inA rin.length x) (hrin : ∀ e ∈ rin, ∀ z ∈ e.2, HOk P z ∧ inC rin.length z)
    (hnew : ∀ j, j < rout.length → (R j ∧ j < rin.length ∧ σ' j = σ j) ∨ mem (σ' j) = .free) (hinj' : ∀ i j, i < rout.length → j < rout.length → σ' i = σ' j → i = j)
    (hr : GOk P r) (hrout : ∀ e ∈ rout, ∀ z ∈ e.2, HOk P z)
    (h1 : ∀ j e, rout[j]? = some e → m' (σ' j) = .row e.1 (e.2.map (renC σ'))) (h2 : ∀ k, (∀ j, j < rout.length → σ' j ≠ k) → m' k = mem k ∨ (∃ i, i < rin.length ∧ σ i = k) ∧ m' k = .dead)
    (h3 : ∀ i, i < rin.length → (∀ j, j < rout.length → σ' j ≠ σ i) → m' (σ i) = .dead) : aK P f (args.map (renA σ)) mem fun y m => y = ren σ' r ∧ m = m' := by
  intro w0 S0 φ D w vs hm ha
  let φs : Phi := fun i => if i < rin.length then φ (σ i) else none
  have es : ∀ i, i < rin.length → φs i = φ (σ i) := fun i hi => if_pos hi
  have hs : ∀ i b, φs i = some b → i < rin.length ∧ φ (σ i) = some b := fun i b hb => by
    by_cases hi : i < rin.length
    · exact ⟨hi, by rw [← es i hi]; exact hb⟩
    · have : φs i = none := if_neg hi
      rw [this] at hb; cases hb
  let Ss : Nat → Prop := fun b => ∃ i, i < rin.length ∧ φ (σ i) = some b
  have hms : MR P w Ss φs D (aH 0 rin bM) w := by
    refine ⟨rfl, rfl, rfl, Nat.le_refl _, fun _ _ _ => rfl, fun i t xs hi => ?_, fun i j t xs t' xs' b hi hj hbi hbj => ?_, hm.dlt, fun i hi => ?_, hm.gl⟩
    · obtain ⟨hlt, he⟩ := ul hi
      have hrow := hmem i _ he
      rcases hm.row _ _ _ hrow with ⟨h0, hn⟩ | ⟨bl, cs, hra⟩
      · exact .inl ⟨by simpa using h0, (es i hlt).trans hn⟩
      · refine .inr ⟨bl, cs, (es i hlt).trans hra.phi, hra.heap, by simpa using hra.len, fun j z hz => ?_, hra.own, .inr ⟨i, hlt, hra.phi⟩⟩
        have hz' := List.mem_of_getElem? hz
        have := hrin _ (List.mem_of_getElem? he) z hz'
        exact DY es this.1 this.2 (hra.cells j (renC σ z) (by simp [hz]))
    · obtain ⟨hli, hei⟩ := ul hi
      obtain ⟨hlj, hej⟩ := ul hj
      exact hinj i j hli hlj (hm.inj _ _ _ _ _ _ b (hmem i _ hei) (hmem j _ hej) (hs i b hbi).2 (hs j b hbj).2)
    · rcases Nat.lt_or_ge i rin.length with hlt | hge
      · have := eF rin 0 bM i _ (List.getElem?_eq_getElem hlt)
        rw [Nat.zero_add, hi] at this
        cases this
      · exact if_neg (by omega)
  have has : RVs P φs D w args vs := ⟨by simpa using ha.1, fun j x hx => by
    have hx' := harg x (List.mem_of_getElem? hx)
    exact Oy es hx'.1 hx'.2 (ha.2 j (renA σ x) (by simp [hx]))⟩
  refine (hok w Ss φs D w vs hms has).mono fun e w' ⟨v, φ2, D2, he, ht, hm2, hv⟩ => ?_
  let inv : Nat → Option Nat := fun k => (List.range rout.length).find? fun j => σ' j == k
  have hinv : ∀ j, j < rout.length → inv (σ' j) = some j := fun j hj => by
    have hex : (inv (σ' j)).isSome = true := by
      rw [List.find?_isSome]
      exact ⟨j, List.mem_range.2 hj, by simp⟩
    obtain ⟨q, hq⟩ := Option.isSome_iff_exists.1 hex
    have h4 := List.find?_some hq
    have h5 := List.mem_range.1 (List.mem_of_find?_eq_some hq)
    rw [hq, hinj' q j h5 hj (by simpa using h4)]
  have hinv' : ∀ k q, inv k = some q → q < rout.length ∧ σ' q = k := fun k q hq => ⟨List.mem_range.1 (List.mem_of_find?_eq_some hq), by have := List.find?_some hq; simpa using this⟩
  let φ' : Phi := fun k => match inv k with | some j => φ2 j | none => φ k
  have p1 : ∀ j, j < rout.length → φ' (σ' j) = φ2 j := fun j hj => by show (match inv (σ' j) with | some j => φ2 j | none => φ (σ' j)) = _; rw [hinv j hj]
  have p0 : ∀ k, (∀ j, j < rout.length → σ' j ≠ k) → φ' k = φ k := fun k hk => by
    show (match inv k with | some j => φ2 j | none => φ k) = _
    cases hq : inv k with
    | none => rfl
    | some q => exact absurd (hinv' k q hq).2 (hk q (hinv' k q hq).1)
  have hφ2 : ∀ j b, φ2 j = some b → j < rout.length := fun j b hb => by
    rcases Nat.lt_or_ge j rout.length with h | h
    · exact h
    · rw [hm2.free j (jw rout 0 bM j (by omega))] at hb; cases hb
  have hblk : ∀ j b, φ2 j = some b → w.heap.size ≤ b ∨ Ss b := fun j b hb => by
    have hj := hφ2 j b hb
    have hrow := eF rout 0 bM j _ (List.getElem?_eq_getElem hj)
    rw [Nat.zero_add] at hrow
    obtain ⟨cs, hra⟩ := hm2.rowAt hrow hb
    exact hra.new
  have hphi : ∀ k b, φ k = some b → φ' k = some b := fun k b hb => by
    by_cases hk : ∃ j, j < rout.length ∧ σ' j = k
    · obtain ⟨j, hj, rfl⟩ := hk
      rw [p1 j hj]
      rcases hnew j hj with ⟨hR, hlt, e⟩ | hf
      · rw [e] at hb
        exact ht.phi j b hR ((es j hlt).trans hb)
      · rw [hm.free _ hf] at hb; cases hb
    · rw [p0 k fun j hj e => hk ⟨j, hj, e⟩]; exact hb
  have htr : Tr φ D w φ' D2 w' := ⟨fun k b _ hb => hphi k b hb, ht.dd, ht.same, ht.shape, ht.size, fun b hb => by
      rcases ht.dnew b hb with h | h | ⟨i, h⟩
      · exact .inl h
      · exact .inr (.inl h)
      · exact .inr (.inr ⟨_, (hs i b h).2⟩),
    fun k b hb => by
      by_cases hk : ∃ j, j < rout.length ∧ σ' j = k
      · obtain ⟨j, hj, rfl⟩ := hk
        rw [p1 j hj] at hb
        rcases hblk j b hb with h | ⟨i, _, h⟩
        · exact .inl h
        · exact .inr ⟨_, h⟩
      · rw [p0 k fun j hj e => hk ⟨j, hj, e⟩] at hb; exact .inr ⟨k, hb⟩⟩
  have hkeep : ∀ b : Nat, b < w.heap.size → ¬ Ss b → w'.heap[b]? = w.heap[b]? := hm2.keep
  have hoth : ∀ k t xs b, mem k = .row t xs → (∀ i, i < rin.length → σ i ≠ k) → φ k = some b → b < w.heap.size ∧ ¬ Ss b := fun k t xs b hk hne hb => by
    refine ⟨hm.phi_lt hk hb, fun ⟨i, hi, hbi⟩ => hne i hi ?_⟩
    exact hm.inj _ _ _ _ _ _ b (hmem i _ (List.getElem?_eq_getElem hi)) hk hbi hb
  have hcase : ∀ k t xs, m' k = .row t xs → (∃ j e, rout[j]? = some e ∧ σ' j = k ∧ t = e.1 ∧ xs = e.2.map (renC σ')) ∨ ((∀ j, j < rout.length → σ' j ≠ k) ∧ (∀ i, i < rin.length → σ i ≠ k) ∧ mem k = .row t xs) := fun k t xs hk => by
    by_cases hq : ∃ j, j < rout.length ∧ σ' j = k
    · obtain ⟨j, hj, rfl⟩ := hq
      have := h1 j _ (List.getElem?_eq_getElem hj)
      rw [hk] at this
      injection this with e1 e2
      exact .inl ⟨j, _, List.getElem?_eq_getElem hj, rfl, e1, e2⟩
    · have hq' : ∀ j, j < rout.length → σ' j ≠ k := fun j hj e => hq ⟨j, hj, e⟩
      refine .inr ⟨hq', fun i hi e => ?_, ?_⟩
      · have := h3 i hi (fun j hj => by rw [e]; exact hq' j hj)
        rw [e, hk] at this; cases this
      · rcases h2 k hq' with h | ⟨_, h⟩
        · rw [← h]; exact hk
        · rw [hk] at h; cases h
  refine ⟨v, _, _, φ', D2, he, ⟨rfl, rfl⟩, htr, ?_, Qc (fun i b hb => by rw [p1 i (hφ2 i b hb)]; exact hb) hr hv⟩
  refine ⟨hm2.os.trans hm.os, hm2.tape.trans hm.tape, hm2.output.trans hm.output, Nat.le_trans hm.size hm2.size, fun b hb hS => ?_, fun k t xs hk => ?_, fun k l t xs t' xs' b hk hl hbk hbl => ?_, hm2.dlt, fun k hk => ?_, hm2.gl⟩
  · rw [hkeep b (Nat.lt_of_lt_of_le hb hm.size) ?_]
    · exact hm.keep b hb hS
    · rintro ⟨i, hi, hbi⟩
      obtain ⟨cs, hra⟩ := hm.rowAt (hmem i _ (List.getElem?_eq_getElem hi)) hbi
      rcases hra.new with h | h
      · omega
      · exact hS h
  · rcases hcase k t xs hk with ⟨j, e, hj, rfl, rfl, rfl⟩ | ⟨ho, hi, hmk⟩
    · have hlt := (List.getElem?_eq_some_iff.1 hj).1
      have hrow := eF rout 0 bM j _ hj
      rw [Nat.zero_add] at hrow
      rcases hm2.row _ _ _ hrow with ⟨h0, hn⟩ | ⟨bl, cs, hra⟩
      · exact .inl ⟨by simp [h0], (p1 j hlt).trans hn⟩
      · refine .inr ⟨bl, cs, (p1 j hlt).trans hra.phi, hra.heap, by simpa using hra.len, fun q z hz => ?_, hra.own, ?_⟩
        · simp at hz
          obtain ⟨u, hu, rfl⟩ := hz
          exact DX (fun i b hb => by rw [p1 i (hφ2 i b hb)]; exact hb) (hrout e (List.mem_of_getElem? hj) u (List.mem_of_getElem? hu)) (hra.cells q u hu)
        · rcases hra.new with h | ⟨i, hi, hbi⟩
          · exact .inl (Nat.le_trans hm.size h)
          · obtain ⟨cs2, hra2⟩ := hm.rowAt (hmem i _ (List.getElem?_eq_getElem hi)) hbi
            exact hra2.new
    · rcases hm.row _ _ _ hmk with ⟨h0, hn⟩ | ⟨bl, cs, hra⟩
      · exact .inl ⟨h0, (p0 k ho).trans hn⟩
      · have hb := hoth k t xs bl hmk hi hra.phi
        refine .inr ⟨bl, cs, (p0 k ho).trans hra.phi, (hkeep bl hb.1 hb.2).trans hra.heap, hra.len, fun q z hz => (hra.cells q z hz).mono htr, fun hd => ?_, hra.new⟩
        rcases ht.dnew bl hd with h | h | ⟨i, h⟩
        · exact hra.own h
        · omega
        · obtain ⟨hi2, h⟩ := hs i bl h
          exact hb.2 ⟨i, hi2, h⟩
  · rcases hcase k t xs hk with ⟨j, e, hj, rfl, _, _⟩ | ⟨ho, hi, hmk⟩ <;> rcases hcase l t' xs' hl with ⟨j2, e2, hj2, rfl, _, _⟩ | ⟨ho2, hi2, hml⟩
    · have hlt := (List.getElem?_eq_some_iff.1 hj).1
      have hlt2 := (List.getElem?_eq_some_iff.1 hj2).1
      rw [p1 j hlt] at hbk
      rw [p1 j2 hlt2] at hbl
      have r1 := eF rout 0 bM j _ hj
      have r2 := eF rout 0 bM j2 _ hj2
      rw [Nat.zero_add] at r1 r2
      rw [hm2.inj _ _ _ _ _ _ b r1 r2 hbk hbl]
    · have hlt := (List.getElem?_eq_some_iff.1 hj).1
      rw [p1 j hlt] at hbk
      rw [p0 l ho2] at hbl
      have := hoth l _ _ b hml hi2 hbl
      rcases hblk j b hbk with h | h
      · omega
      · exact absurd h this.2
    · have hlt2 := (List.getElem?_eq_some_iff.1 hj2).1
      rw [p1 j2 hlt2] at hbl
      rw [p0 k ho] at hbk
      have := hoth k _ _ b hmk hi hbk
      rcases hblk j2 b hbl with h | h
      · omega
      · exact absurd h this.2
    · rw [p0 k ho] at hbk
      rw [p0 l ho2] at hbl
      exact hm.inj _ _ _ _ _ _ b hmk hml hbk hbl
  · by_cases hq : ∃ j, j < rout.length ∧ σ' j = k
    · obtain ⟨j, hj, rfl⟩ := hq
      have := h1 j _ (List.getElem?_eq_getElem hj)
      rw [hk] at this; cases this
    · have hq' : ∀ j, j < rout.length → σ' j ≠ k := fun j hj e => hq ⟨j, hj, e⟩
      rw [p0 k hq']
      rcases h2 k hq' with h | ⟨_, h⟩
      · exact hm.free k (by rw [← h]; exact hk)
      · rw [hk] at h; cases h
end Go.Pv
set_option linter.unusedVariables false
set_option linter.unusedSimpArgs false
namespace Go.Pv
variable {P : Program} {mem m m2 mh : Mem} {st s : St} {o oi oj : Oper} {ops : Array Oper} {base i j q r : Nat} {ts : List PV}
theorem oW {K K' : List PV → List URow → Prop} {R0 : List URow} (hK : ∀ ts U U', RelQ base q r R0 U U' → K ts U → K' ts U') (hq : q < 1000) : ∀ (l : List Oper) (i : Nat) (ts : List PV) (U U' : List URow), (∀ j, i ≤ j → j < i + l.length → ∀ v, base + 16 * j ≤ v → v < base + 16 * j + 16 → v ≠ r) → i + l.length ≤ 1000 → (i + l.length ≤ q ∨ q < i) → RelQ base q r R0 U U' →
    aB P base ops mh i l ts U K → gI P base q r ops m mh i l ts U' K'
  | [], i, ts, U, U', _, _, _, hR, h => hK _ _ _ hR h
  | o :: l, i, ts, U, U', hl, hn, hi, hR, h => by
    unfold aB at h
    unfold gI
    simp only [List.length_cons] at hl hn hi
    have hl' : ∀ j, i + 1 ≤ j → j < i + 1 + l.length → ∀ v, base + 16 * j ≤ v → v < base + 16 * j + 16 → v ≠ r := fun j h1 h2 => hl j (by omega) (by omega)
    split at h
    · exact h.elim
    · rename_i t hg
      rw [hg]
      refine ⟨fun e => ?_, fun e => oW hK hq l (i + 1) _ U U' hl' (by omega) (by omega) hR (h.2 e)⟩
      obtain ⟨x, ups, V, hV, hs, hrest⟩ := h.1 e
      refine ⟨x, ups, .inl ⟨by omega, V, ?_, hs⟩, oW hK hq l (i + 1) _ (ups ++ U) (ups ++ U') hl' (by omega) (by omega) ⟨fun v hv => ?_, hR.2.1, fun m => by rw [bF, bF, hR.2.2]⟩ hrest⟩
      · rcases hV with h0 | ⟨v, k, h0, hv, h1, h2, h3, h4⟩
        · exact .inl h0
        · obtain ⟨h5, h6, h7⟩ := hR.1 v hv
          refine .inr ⟨v, k, h0, h5, h6, fun e => h7 (e ▸ ⟨h1, h2⟩), h1, h2, h3, ?_⟩
          rw [hR.2.2, (jV (l := U) (m := mh) (i := v.1) ⟨v, hv, rfl⟩).2 (addU R0 mh)]
          exact h4
      · rcases List.mem_append.1 hv with hv | hv
        · have := hs.1 v hv
          exact ⟨List.mem_append_left _ hv, hl i (Nat.le_refl _) (by omega) _ this.1 this.2, by omega⟩
        · obtain ⟨h5, h6, h7⟩ := hR.1 v hv
          exact ⟨List.mem_append_right _ h5, h6, h7⟩
def xh (P : Program) (base : Nat) (ops : Array Oper) (m : Mem) (n p r : Nat) (op oq : Oper) (l2 l3 : List Oper) (K : St → Prop) (ts : List PV) (U : List URow) : Prop :=
  gd ops op ts = some true ∧ ∃ x0 t' xs0, mZ P (base + 16 * p) op ts m x0 [(r, t', xs0)] ∧ lJ P base ops m n (p + 1) r t' xs0 oq l2 l3 K (putL ts op.dst x0) U
theorem xh.mk {n p : Nat} {t' : TypeId} {x0 : PV} {xs0 : List PV} {op oq : Oper} {l2 l3 : List Oper} {K : St → Prop} {U : List URow} (hg : gd ops op ts = some true) (hkey : base + 16 * p ≤ r ∧ r < base + 16 * p + 16)
    (hal : ∀ m2 : Mem, m2 r = .free → ∀ K' : PV → Mem → Prop, K' x0 (upd m2 r (.row t' xs0)) → aop P (base + 16 * p) op ⟨ts, m2⟩ K') (hrest : lJ P base ops m n (p + 1) r t' xs0 oq l2 l3 K (putL ts op.dst x0) U) : xh P base ops m n p r op oq l2 l3 K ts U :=
  ⟨hg, x0, t', xs0, ⟨fun u hu => by rw [List.mem_singleton.1 hu]; exact hkey, fun m2 _ hf K' hK' => hal m2 (hf _ (List.mem_singleton_self _)) K' hK'⟩, hrest⟩
theorem W.drawA {R : Nat → Prop} {Q : St → Exit → Prop} {id n : Nat} {l l2 : List Oper} {op oq : Oper} (p r : Nat) (hf : P.follows .mixedOrders = true) (hB : jS l.toArray n = true) (hs : l.length < 1000) (hfr : ∀ k, 16384 * (id + 1) ≤ k → k < 16384 * (id + 1) + 16384 → st.mem k = .free)
    (hr : 16384 * (id + 1) + 16 * p ≤ r ∧ r < 16384 * (id + 1) + 16 * p + 16) (hq : p + 2 ≤ n ∧ p + 2 ≤ l.length) (ht : (l.take n).drop p = op :: oq :: l2) (he : (oq.after.any fun e => Region.binds .any e && e.on == p) = true)
    (h : aB P (16384 * (id + 1)) l.toArray st.mem 0 (l.take p) st.tmps [] (xh P (16384 * (id + 1)) l.toArray st.mem n p r op oq l2 (l.drop n) fun s => Q s .normal)) : W P R (.region id l.toArray true) st Q := by
  obtain ⟨l1, hl1⟩ : ∃ l1, l1 = l.take p := ⟨_, rfl⟩
  rw [← hl1] at h
  obtain ⟨hqn, hql⟩ := hq
  have hq : l1.length = p := by rw [hl1, List.length_take]; omega
  have hoq : l.toArray[p + 1]? = some oq := by
    have h1 : ((l.take n).drop p)[1]? = some oq := by rw [ht]; rfl
    rw [List.getElem?_drop, List.getElem?_take] at h1
    simpa [show p + 1 < n by omega] using h1
  replace ht : l.take n = l1 ++ op :: oq :: l2 := by
    rw [← ht, hl1]
    conv => lhs; rw [← List.take_append_drop p (l.take n)]
    rw [List.take_take, Nat.min_eq_left (by omega)]
  have hlen : l1.length + 2 + l2.length ≤ l.length := by
    have := congrArg List.length ht
    simp only [List.length_take, List.length_append, List.length_cons] at this
    omega
  have hedge : ¬ fC oq p := fun hn => by
    rw [Array.any_eq_true] at he
    obtain ⟨k, hk, he⟩ := he
    rw [Bool.and_eq_true, beq_iff_eq] at he
    exact hn _ (Array.getElem_mem hk) he.1 he.2
  have hmr : upd st.mem r .free = st.mem := by
    funext k
    unfold upd
    split
    · rename_i e; subst e; exact (hfr _ (by omega) (by omega)).symm
    · rfl
  refine ES hf (zl (q := p + 1) (r := r) hB (by simpa using hs) (.inr ⟨p, oq, by omega, hr.1, hr.2, hoq, hedge⟩) hfr ?_)
  rw [List.toList_toArray, ht]
  refine kV l1 _ 0 _ _ (oW (R0 := []) (fun ts U U' hR hU => ?_) (by omega) l1 0 _ [] [] (fun j h1 h2 v h3 h4 => by omega) (by omega) (.inl (by omega)) ⟨by simp, by simp, fun m => rfl⟩ (by rw [hmr]; exact h))
  obtain ⟨hg0, x0, t', xs0, hsure0, hg, x, t, xs1, hsure, hrest⟩ := hU
  rw [Nat.zero_add, hq]
  have hU' : ∀ m, addU U' m = addU U m := fun m => hR.2.2 m
  unfold gI
  rw [hg0]
  refine ⟨fun _ => ⟨x0, [(r, t', xs0)], .inl ⟨by omega, [], .inl rfl, by rw [hmr]; exact hsure0⟩, ?_⟩, fun e => by cases e⟩
  unfold gI
  rw [hg]
  refine ⟨fun _ => ⟨x, [(r, t, xs1)], .inr ⟨rfl, t, t', xs0, xs1, rfl, by simp [addU, upd], hsure⟩, ?_⟩, fun e => by cases e⟩
  refine oW (R0 := [(r, t, xs1)]) (fun ts U U' hR2 hU2 => ?_) (by omega) l2 (p + 1 + 1) _ U _ (fun j h1 h2 v h3 h4 => by omega) (by omega) (.inr (by omega)) ⟨fun v hv => ⟨List.mem_append_right _ (List.mem_append_right _ (hR.1 v hv).1), (hR.1 v hv).2⟩, by simp, fun m => ?_⟩ hrest
  · have := hR2.2.2 st.mem
    rw [this]
    exact hU2
  · rw [bF, bF, hU']
    have e1 : ∀ m0 : Mem, addU [(r, t, xs1)] (addU [(r, t', xs0)] m0) = addU [(r, t, xs1)] m0 := fun m0 => by simp only [addU]; exact Ja ..
    rw [e1]
    exact lW (fun u hu v hv e => (hR.1 v hv).2.1 (by rw [← e, List.mem_singleton.1 hu])) m
end Go.Pv
