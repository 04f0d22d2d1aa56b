/- The engine of this session, part 20: regions that draw their order and write to a row. -/
import Derived.Test.YtneapbfomhalpaaGreatDoorQC
set_option linter.unusedVariables false
set_option linter.unusedSimpArgs false
namespace Go.Pv
variable {P : Program} {mem m m2 mh : Mem} {st s : St} {o oi oj : Oper} {ops : Array Oper} {base i j q r : Nat} {ts : List PV}

/-- The rows that an operation may make; q is the one that writes to the row r. -/
def ownQ (base q r k id : Nat) : Prop := if k = q then id = r else base + 16 * k ≤ id ∧ id < base + 16 * k + 16
def SureC (P : Program) (key : Nat) (o : Oper) (ts : List PV) (mm : Mem) (c : Nat → Slot) (x : PV) (ups : List URow) : Prop :=
  ∀ m2, ExtM mm m2 → (∀ u ∈ ups, m2 u.1 = c u.1) → ∀ K : PV → Mem → Prop, K x (addU ups m2) → aop P key o ⟨ts, m2⟩ K
theorem SureC.same {key : Nat} {mm : Mem} {c : Nat → Slot} {x y : PV} {ups : List URow} {dst : Option Tmp} (h : ∀ d, dst = some d → d ∉ o.looksAt ops) : SureC P key o (putL ts dst y) mm c x ups ↔ SureC P key o ts mm c x ups := by
  have he : ∀ (m2 : Mem) K, aop P key o ⟨putL ts dst y, m2⟩ K = aop P key o ⟨ts, m2⟩ K := fun m2 K => by
    refine aop_congr (s := ⟨putL ts dst y, m2⟩) (t := ⟨ts, m2⟩) key rfl (fun z hz => eval_putL fun d hd e => h d hd ?_) K
    subst e
    unfold Oper.looksAt
    exact List.mem_append_left _ (List.mem_filterMap.2 ⟨.tmp d, by simpa using hz, rfl⟩)
  unfold SureC
  constructor
  · intro h2 m2 a b K hK; rw [← he]; exact h2 m2 a b K hK
  · intro h2 m2 a b K hK; rw [he]; exact h2 m2 a b K hK
def YQ (P : Program) (base q r : Nat) (ops : Array Oper) (i : Nat) (o : Oper) (x : PV) (ups : List URow) (s : St) : Prop :=
  (gd ops o s.tmps = some true ∧ ∃ (mm : Mem) (c : Nat → Slot), ExtM mm s.mem ∧ (∀ u ∈ ups, s.mem u.1 = c u.1) ∧ (∀ k, k < 1000 → k ≠ i → noEdge o k → ∀ id, ownQ base q r k id → mm id = .free) ∧ (∀ u ∈ ups, ownQ base q r i u.1) ∧ SureC P (base + 16 * i) o s.tmps mm c x ups) ∨
  (gd ops o s.tmps = some false ∧ x = .b undef ∧ ups = [])
theorem YQ.keys {x : PV} {ups : List URow} (h : YQ P base q r ops i o x ups s) : ∀ u ∈ ups, ownQ base q r i u.1 := by
  rcases h with ⟨_, _, _, _, _, _, h, _⟩ | ⟨_, _, rfl⟩
  · exact h
  · intro u hu; cases hu
def sQ (P : Program) (base q r : Nat) (ops : Array Oper) (i : Nat) (K : St → Prop) (s : St) : Prop :=
  match ops[i]? with
  | none => K s
  | some o => ∃ x ups, YQ P base q r ops i o x ups s ∧ K (putS s o x ups)
theorem sQ_aAt {K K' : St → Prop} (hk : ∀ s, K s → K' s) (h : sQ P base q r ops i K s) : aAt P base ops i K' s := by
  unfold sQ at h
  unfold aAt
  cases ho : ops[i]? with
  | none => simp only [ho] at h ⊢; exact hk _ h
  | some o =>
    simp only [ho] at h ⊢
    obtain ⟨x, ups, hy, hK⟩ := h
    rcases hy with ⟨hg, mm, c, h1, hc, _, _, h2⟩ | ⟨hg, rfl, rfl⟩
    · exact aGuard_true hg (h2 s.mem h1 hc (fun x m' => K' (put s o.dst x m')) (hk _ hK))
    · exact aGuard_false hg (hk _ hK)
theorem sQ_mono {K K' : St → Prop} (hk : ∀ s, K s → K' s) (h : sQ P base q r ops i K s) : sQ P base q r ops i K' s := by
  unfold sQ at *
  cases ho : ops[i]? with
  | none => simp only [ho] at h ⊢; exact hk _ h
  | some o =>
    simp only [ho] at h ⊢
    obtain ⟨x, ups, h1, h2⟩ := h
    exact ⟨x, ups, h1, hk _ h2⟩
/-- Two operations of which none hangs on the other make different rows. -/
def DisQ (base q r : Nat) (ops : Array Oper) : Prop := ∀ i j oi oj, ops[i]? = some oi → ops[j]? = some oj → i ≠ j → noEdge oi j → noEdge oj i → ∀ id, ownQ base q r i id → ownQ base q r j id → False
theorem sQ_put {x : PV} {upi : List URow} (hd : DisQ base q r ops) (hi : ops[i]? = some oi) (hj : ops[j]? = some oj) (hij : j ≠ i) (hap : oi.apart ops oj = true) (hno : noEdge oj i) (hno' : noEdge oi j) (hi3 : i < 1000) (hj3 : j < 1000) {K : St → Prop} (hy : YQ P base q r ops i oi x upi s) (h : sQ P base q r ops j K (putS s oi x upi)) :
    sQ P base q r ops j (fun s' => YQ P base q r ops i oi x upi s' ∧ K (putS s' oi x upi)) s := by
  obtain ⟨h1, h2, h3⟩ := Oper.apart_spec hap
  have hki := hy.keys
  unfold sQ at h ⊢
  simp only [hj] at h ⊢
  obtain ⟨y, upj, hyj, hK⟩ := h
  have hkj := hyj.keys
  have hne : ∀ u ∈ upi, ∀ v ∈ upj, u.1 ≠ v.1 := fun u hu v hv e => hd i j oi oj hi hj (Ne.symm hij) hno' hno u.1 (hki u hu) (e ▸ hkj v hv)
  refine ⟨y, upj, ?_, ?_, ?_⟩
  · rcases hyj with ⟨hg, mm, c, he, hc, hfr, ho, hs⟩ | ⟨hg, rfl, rfl⟩
    · refine .inl ⟨by rwa [putS, gd_putL h1] at hg, mm, c, fun id hid => ?_, fun u hu => ?_, hfr, ho, (SureC.same h1).1 hs⟩
      · have h4 := he id hid
        simp only [putS] at h4
        rwa [addU_out (i := id) (fun u hu e => hid (hfr i hi3 (Ne.symm hij) hno id (by have := hki u hu; rwa [e] at this)))] at h4
      · have h4 := hc u hu
        simp only [putS] at h4
        rwa [addU_out (fun v hv => hne v hv u hu)] at h4
    · exact .inr ⟨by rwa [putS, gd_putL h1] at hg, rfl, rfl⟩
  · rcases hy with ⟨hg, mm, c, he, hc, hfr, ho, hs⟩ | ⟨hg, rfl, rfl⟩
    · refine .inl ⟨by rw [putS, gd_putL h3]; exact hg, mm, c, fun id hid => ?_, fun u hu => ?_, hfr, ho, (SureC.same h3).2 hs⟩
      · simp only [putS]
        rw [addU_out (i := id) (fun u hu e => hid (hfr j hj3 hij hno' id (by have := hkj u hu; rwa [e] at this)))]
        exact he id hid
      · simp only [putS]
        rw [addU_out (fun v hv e => hne u hu v hv e.symm)]
        exact hc u hu
    · exact .inr ⟨by rw [putS, gd_putL h3]; exact hg, rfl, rfl⟩
  · have e : putS (putS s oi x upi) oj y upj = putS (putS s oj y upj) oi x upi := by
      simp only [putS]
      rw [putL_comm _ x y h2, addU_comm (fun v hv u hu => (hne u hu v hv).symm)]
    rw [← e]
    exact hK
def sAnyQ (P : Program) (base q r : Nat) (ops : Array Oper) (n : Nat) (L : Array Bool → St → Prop) : Nat → Array Bool → St → Prop
  | 0, listed, s => L listed s
  | f + 1, listed, s => Region.ready .any ops listed ≠ [] ∧ ∀ i ∈ Region.ready .any ops listed, i < n ∧ sQ P base q r ops i (sAnyQ P base q r ops n L f (listed.setIfInBounds i true)) s
theorem aAny_of_sAnyQ {n g : Nat} {L : Array Bool → St → Prop} {K : St → Prop} (hL : ∀ listed s, L listed s → aAny P base ops K g listed s) :
    ∀ (f : Nat) (listed : Array Bool) (s : St), sAnyQ P base q r ops n L f listed s → aAny P base ops K (f + g) listed s
  | 0, listed, s, h => by rw [Nat.zero_add]; exact hL _ _ h
  | f + 1, listed, s, h => by
    rw [show f + 1 + g = (f + g) + 1 by omega]
    exact ⟨fun h0 => absurd h0 h.1, fun i hi => sQ_aAt (fun s' h' => aAny_of_sAnyQ hL f _ s' h') (h.2 i hi).2⟩
theorem sAnyQ_first {n : Nat} {x : PV} {ups : List URow} {L : Array Bool → St → Prop} (hd : DisQ base q r ops) (hi : ops[i]? = some oi) (hn3 : n < 1000)
    (hw : ∀ listed, HeadInv .any ops n listed → ∀ i, i < n → listed.getD i true = false → ∀ t, n ≤ t → t ∉ Region.ready .any ops listed) (hin : i < n)
    (hdone : ∀ listed s, L listed s → ∀ j ∈ Region.ready .any ops listed, n ≤ j) :
    ∀ (f : Nat) (listed : Array Bool) (s : St), HeadInv .any ops n listed →
      (∀ j oj, ops[j]? = some oj → j ≠ i → listed.getD j true = false → (∀ e ∈ oj.after, Region.binds .any e = true → e.on ≠ i) → oi.apart ops oj = true) →
      i ∈ Region.ready .any ops listed → YQ P base q r ops i oi x ups s →
      sAnyQ P base q r ops n L f (listed.setIfInBounds i true) (putS s oi x ups) → sAnyQ P base q r ops n L (f + 1) listed s := by
  intro f
  induction f with
  | zero =>
    intro listed s inv _ hr hy H
    have hun := (mem_ready.1 hr).1
    refine ⟨fun h => (by rw [h] at hr; cases hr), fun j hj => ?_⟩
    have hjn : j < n := by
      rcases Nat.lt_or_ge j n with h | h
      · exact h
      · exact absurd hj (hw listed inv i hin hun j h)
    refine ⟨hjn, ?_⟩
    by_cases hji : j = i
    · subst hji
      unfold sQ
      simp only [hi]
      exact ⟨x, ups, hy, H⟩
    · have := hdone _ _ H j (ready_mono hj hji)
      omega
  | succ f ih =>
    intro listed s inv hfree hr hy H
    have hun := (mem_ready.1 hr).1
    refine ⟨fun h => (by rw [h] at hr; cases hr), fun j hj => ?_⟩
    have hjn : j < n := by
      rcases Nat.lt_or_ge j n with h | h
      · exact h
      · exact absurd hj (hw listed inv i hin hun j h)
    refine ⟨hjn, ?_⟩
    by_cases hji : j = i
    · subst hji
      unfold sQ
      simp only [hi]
      exact ⟨x, ups, hy, H⟩
    · have h1 := (H.2 j (ready_mono hj hji)).2
      obtain ⟨hjun, oj, hoj, hall⟩ := mem_ready.1 hj
      obtain ⟨_, oi', hoi', halli⟩ := mem_ready.1 hr
      have hoo : oi' = oi := Option.some.inj (hoi'.symm.trans hi)
      subst hoo
      have hnot : ∀ e ∈ oj.after, Region.binds .any e = true → e.on ≠ i := fun e he hb heq => by
        have h1 := hall e he hb
        rw [heq, getD_both hun] at h1
        cases h1
      have hnot' : noEdge oi' j := fun e he hb heq => by
        have h1 := halli e he hb
        rw [heq, getD_both hjun] at h1
        cases h1
      have h2 := sQ_put hd hi hoj hji (hfree j oj hoj hji hjun hnot) hnot hnot' (by omega) (by omega) hy h1
      have hfree' : ∀ k ok, ops[k]? = some ok → k ≠ i → (listed.setIfInBounds j true).getD k true = false →
          (∀ e ∈ ok.after, Region.binds .any e = true → e.on ≠ i) → oi'.apart ops ok = true := fun k ok hk hki hun hno => by
        refine hfree k ok hk hki ?_ hno
        by_cases hjk : j = k
        · subst hjk; exact hjun
        · rw [getD_set_ne true hjk] at hun; exact hun
      refine sQ_mono (fun s' h3 => ih (listed.setIfInBounds j true) s' (inv.set hj hjn) hfree' (ready_mono hr (Ne.symm hji)) h3.1 ?_) h2
      rw [Array.setIfInBounds_comm _ _ hji]
      exact h3.2
/-- The operations ahead, in the text's order: what each tells, the rows that it makes; the one that writes. -/
def aheadG (P : Program) (base q r : Nat) (ops : Array Oper) (m mh : Mem) : Nat → List Oper → List PV → List URow → (List PV → List URow → Prop) → Prop
  | _, [], ts, U, K => K ts U
  | i, o :: rest, ts, U, K => (match gd ops o ts with
    | none => False
    | some t => (t = true → ∃ x ups, ((i ≠ q ∧ ∃ V, (V = [] ∨ ∃ v k, V = [v] ∧ v ∈ U ∧ v.1 ≠ r ∧ k ≠ q ∧ base + 16 * k ≤ v.1 ∧ v.1 < base + 16 * k + 16 ∧ ¬ noEdge o k ∧ addU U mh v.1 = .row v.2.1 v.2.2) ∧ SureA P (base + 16 * i) o ts (addU V mh) x ups) ∨
          (i = q ∧ ∃ t t' xs0 xs1, ups = [(r, t, xs1)] ∧ addU U m r = .row t' xs0 ∧ ∀ m2 : Mem, m2 r = .row t' xs0 → ∀ K' : PV → Mem → Prop, K' x (upd m2 r (.row t xs1)) → aop P (base + 16 * i) o ⟨ts, m2⟩ K')) ∧ aheadG P base q r ops m mh (i + 1) rest (putL ts o.dst x) (ups ++ U) K) ∧
      (t = false → aheadG P base q r ops m mh (i + 1) rest (putL ts o.dst (.b undef)) U K))
/-- Where the row lies: outside of the region's rows, or made by an operation on which the writing one hangs. -/
def LiesQ (base q r : Nat) (ops : Array Oper) : Prop := (r < base ∨ base + 16384 ≤ r) ∨ ∃ p oq, p < q ∧ base + 16 * p ≤ r ∧ r < base + 16 * p + 16 ∧ ops[q]? = some oq ∧ ¬ noEdge oq p
theorem LiesQ.dis (h : LiesQ base q r ops) (hsz : ops.size < 1000) : DisQ base q r ops := fun i j oi oj hi hj hij h1 h2 id hii hjj => by
  have hi3 := (Array.getElem?_eq_some_iff.1 hi).1
  have hj3 := (Array.getElem?_eq_some_iff.1 hj).1
  unfold ownQ at hii hjj
  split at hii
  · rename_i e
    subst e
    rw [if_neg (Ne.symm hij)] at hjj
    rcases h with h | ⟨p, oq, h3, h4, h5, h6, h7⟩
    · omega
    · have : p = j := by omega
      subst this
      rw [hi] at h6
      cases h6
      exact h7 h1
  · split at hjj
    · rename_i e
      subst e
      rcases h with h | ⟨p, oq, h3, h4, h5, h6, h7⟩
      · omega
      · have : p = i := by omega
        subst this
        rw [hj] at h6
        cases h6
        exact h7 h2
    · omega
theorem aheadG_yq {rest : List Oper} {U : List URow} {K : List PV → List URow → Prop} (hl : LiesQ base q r ops) (hfr : ∀ id, base ≤ id → id < base + 16384 → m id = .free) (hmh : mh = upd m r .free) (hi : i < 1000)
    (hU : ∀ u ∈ U, ∃ k, k < i ∧ ownQ base q r k u.1) (h : aheadG P base q r ops m mh i (o :: rest) ts U K) :
    ∃ x ups, YQ P base q r ops i o x ups ⟨ts, addU U m⟩ ∧ aheadG P base q r ops m mh (i + 1) rest (putL ts o.dst x) (ups ++ U) K := by
  unfold aheadG at h
  split at h
  · exact h.elim
  · rename_i t hg
    cases t with
    | false => exact ⟨.b undef, [], .inr ⟨hg, rfl, rfl⟩, h.2 rfl⟩
    | true =>
      obtain ⟨x, ups, hs, hrest⟩ := h.1 rfl
      refine ⟨x, ups, .inl ⟨hg, ?_⟩, hrest⟩
      rcases hs with ⟨hiq, V, hV, hs⟩ | ⟨hiq, t, t', xs0, xs1, rfl, hr, hs⟩
      · have hfree : ∀ id, base + 16 * i ≤ id → id < base + 16 * i + 16 → addU U m id = .free := fun id h1 h2 => by
          rw [addU_out (fun v hv e => ?_)]
          · exact hfr id (by omega) (by omega)
          · obtain ⟨k, hk, ho⟩ := hU v hv
            unfold ownQ at ho
            split at ho
            · rcases hl with hl | ⟨p, oq, h3, h4, h5, _, _⟩ <;> omega
            · omega
        have hext : ∀ id, mh id ≠ .free → addU U m id = mh id := fun id hid => by
          have hne : id ≠ r := fun e => hid (by rw [hmh, e, upd_same])
          have hm : mh id = m id := by rw [hmh, upd_ne _ _ hne]
          rw [addU_out (fun v hv e => ?_), hm]
          obtain ⟨k, hk, ho⟩ := hU v hv
          unfold ownQ at ho
          split at ho
          · omega
          · exact hid (by rw [hm]; exact hfr id (by omega) (by omega))
        have hmhf : ∀ id, base ≤ id → id < base + 16384 → mh id = .free := fun id h1 h2 => by
          rw [hmh]; unfold upd; split
          · rfl
          · exact hfr id h1 h2
        refine ⟨addU V mh, fun _ => .free, ?_, fun u hu => ?_, ?_, fun u hu => ?_, hs.2⟩
        · rcases hV with rfl | ⟨v, k, rfl, hv, hvr, hkq, h1, h2, _, h3⟩
          · exact hext
          · intro id hid
            by_cases e : id = v.1
            · subst e
              have := (addU_in (l := U) (m := mh) (i := v.1) ⟨v, hv, rfl⟩).2 m
              show addU U m v.1 = _
              rw [this, h3]
              simp [addU, upd]
            · have : addU [v] mh id = mh id := by simp [addU, upd, e]
              rw [this] at hid ⊢
              exact hext id hid
        · have h1 := hs.1 u hu
          exact hfree _ h1.1 h1.2
        · intro k hk3 hki hno id ho
          unfold ownQ at ho
          rcases hV with rfl | ⟨v, k', rfl, hv, hvr, hkq, h3, h4, h5, h6⟩
          · split at ho
            · subst ho; show mh id = _; rw [hmh, upd_same]
            · exact hmhf id (by omega) (by omega)
          · have hk' : k ≠ k' := fun e => h5 (e ▸ hno)
            have hne : id ≠ v.1 := fun e => by
              split at ho
              · exact hvr (e.symm.trans ho)
              · omega
            have e2 : addU [v] mh id = mh id := by simp [addU, upd, hne]
            rw [e2]
            split at ho
            · subst ho; rw [hmh, upd_same]
            · exact hmhf id (by omega) (by omega)
        · unfold ownQ; rw [if_neg hiq]; exact hs.1 u hu
      · refine ⟨fun _ => .free, fun _ => .row t' xs0, fun id hid => absurd rfl hid, fun u hu => ?_, fun _ _ _ _ _ _ => rfl, fun u hu => ?_, ?_⟩
        · rw [List.mem_singleton.1 hu]; exact hr
        · rw [List.mem_singleton.1 hu]; unfold ownQ; rw [if_pos hiq]
        · intro m2 _ hm2 K' hK'
          exact hs m2 (hm2 _ (List.mem_singleton_self _)) K' hK'
theorem sAnyQ_lex {n g : Nat} {Lq : List PV → List URow → Prop} (hl : LiesQ base q r ops) (hsz : ops.size < 1000) (hfr : ∀ id, base ≤ id → id < base + 16384 → m id = .free) (hmh : mh = upd m r .free) (hn3 : n < 1000)
    (hw : ∀ listed, HeadInv .any ops n listed → ∀ i, i < n → listed.getD i true = false → ∀ t, n ≤ t → t ∉ Region.ready .any ops listed) :
    ∀ (l : List Oper) (k : Nat) (listed : Array Bool) (ts : List PV) (U : List URow), (∀ j, j < l.length → l[j]? = ops[k + j]?) → k + l.length = n → HeadInv .any ops n listed →
    Region.lexHead .any ops g l.length k listed = true → (∀ u ∈ U, ∃ k', k' < k ∧ ownQ base q r k' u.1) → aheadG P base q r ops m mh k l ts U Lq →
    sAnyQ P base q r ops n (fun listed' s' => Region.seqB .any ops g n listed' = true ∧ ∃ ts' U', s' = ⟨ts', addU U' m⟩ ∧ Lq ts' U') l.length listed ⟨ts, addU U m⟩
  | [], k, listed, ts, U, _, hk, _, hB, _, h => by
    have : k = n := by simpa using hk
    subst this
    exact ⟨by simpa [Region.lexHead] using hB, ts, U, rfl, h⟩
  | o :: l, k, listed, ts, U, hll, hk, inv, hB, hU, h => by
    have h0 : ops[k]? = some o := by simpa using (hll 0 (by simp)).symm
    simp only [List.length_cons, Region.lexHead, Bool.and_eq_true] at hB
    obtain ⟨⟨hr, hf⟩, hB'⟩ := hB
    have hkn : k < n := by simp only [List.length_cons] at hk; omega
    have hr' : k ∈ Region.ready .any ops listed := by simpa using hr
    obtain ⟨x, ups, hy, hK⟩ := aheadG_yq hl hfr hmh (by omega) hU h
    have hkeys := hy.keys
    have hrec := sAnyQ_lex hl hsz hfr hmh hn3 hw l (k + 1) (listed.setIfInBounds k true) (putL ts o.dst x) (ups ++ U) (fun j hj => by have := hll (j + 1) (by simp; omega); simpa [Nat.add_assoc, Nat.add_comm 1 j] using this) (by simp only [List.length_cons] at hk; omega) (inv.set hr' hkn) hB' (fun u hu => by
      rcases List.mem_append.1 hu with hu | hu
      · exact ⟨k, by omega, hkeys u hu⟩
      · obtain ⟨q, h1, h2⟩ := hU u hu
        exact ⟨q, by omega, h2⟩) hK
    rw [addU_append] at hrec
    exact sAnyQ_first (hl.dis hsz) h0 hn3 hw hkn (fun listed' s' hL => seqB_ready hL.1) l.length listed ⟨ts, addU U m⟩ inv (Region.free_spec h0 hf) hr' hy hrec
theorem aheadG_any {n : Nat} {K : St → Prop} (hB : drawB ops n = true) (hs : ops.size < 1000) (hl : LiesQ base q r ops) (hfr : ∀ id, base ≤ id → id < base + 16384 → st.mem id = .free)
    (h : aheadG P base q r ops st.mem (upd st.mem r .free) 0 (ops.toList.take n) st.tmps [] fun ts U => aops P base ops n (ops.toList.drop n) ⟨ts, addU U st.mem⟩ K) : aAny P base ops K ops.size (Array.replicate ops.size false) st := by
  simp only [drawB, Bool.and_eq_true, decide_eq_true_eq, Bool.or_eq_true, beq_iff_eq] at hB
  obtain ⟨⟨hn, hsc⟩, hlex⟩ := hB
  have hw : ∀ listed, HeadInv .any ops n listed → ∀ i, i < n → listed.getD i true = false → ∀ t, n ≤ t → t ∉ Region.ready .any ops listed := fun listed inv i hi hun t ht hr => by
    rcases hsc with rfl | ⟨hs, hc⟩
    · obtain ⟨_, ot, hot, _⟩ := mem_ready.1 hr
      have := (Array.getElem?_eq_some_iff.1 hot).1
      omega
    · by_cases hlt : n < ops.size
      · exact tail_waits hs hc hlt inv _ i rfl hi hun t ht hr
      · obtain ⟨_, ot, hot, _⟩ := mem_ready.1 hr
        have := (Array.getElem?_eq_some_iff.1 hot).1
        omega
  have htl : (ops.toList.take n).length = n := by simp; omega
  have hdl : (ops.toList.drop n).length = ops.size - n := by simp
  have inv0 : HeadInv .any ops n (Array.replicate ops.size false) :=
    ⟨by simp, fun j oj _ hl => (by rw [getD_replicate_false] at hl; cases hl), fun t _ ht => getD_in (by simpa using ht) (getD_replicate_false _ _)⟩
  have H := sAnyQ_lex (P := P) (base := base) (g := ops.size - n) hl hs hfr rfl (by omega) hw (ops.toList.take n) 0 _ st.tmps [] (fun j hj => by
    have hj' : j < n := by rw [htl] at hj; exact hj
    simp [hj']) (by simpa using htl) inv0 (by rw [htl]; exact hlex) (by simp) h
  have := aAny_of_sAnyQ (K := K) (g := ops.size - n) (fun listed s hL => by
    obtain ⟨h1, ts', U', rfl, h2⟩ := hL
    have := aAny_of_seq (ops.toList.drop n) n listed ⟨ts', addU U' st.mem⟩ (fun j => by simp [List.getElem?_drop]) (by rw [hdl]; exact h1) h2
    rwa [hdl] at this) _ _ _ H
  rw [htl, show n + (ops.size - n) = ops.size by omega] at this
  exact this
/-- The rows that the walk lists, and those that there are. -/
def RelQ (base q r : Nat) (R0 U U' : List URow) : Prop := (∀ v ∈ U, v ∈ U' ∧ v.1 ≠ r ∧ ¬ (base + 16 * q ≤ v.1 ∧ v.1 < base + 16 * q + 16)) ∧ (∀ v ∈ R0, v.1 = r) ∧ ∀ m, addU U' m = addU U (addU R0 m)
theorem aheadG_of {K K' : List PV → List URow → Prop} {R0 : List URow} (hK : ∀ ts U U', RelQ base q r R0 U U' → K ts U → K' ts U') (hl : r < base ∨ base + 16384 ≤ r) (hq : q < 1000) : ∀ (l : List Oper) (i : Nat) (ts : List PV) (U U' : List URow), i + l.length ≤ 1000 → (i + l.length ≤ q ∨ q < i) → RelQ base q r R0 U U' →
    aheadU P base ops mh i l ts U K → aheadG P base q r ops m mh i l ts U' K'
  | [], i, ts, U, U', _, _, hR, h => hK _ _ _ hR h
  | o :: l, i, ts, U, U', hn, hi, hR, h => by
    unfold aheadU at h
    unfold aheadG
    simp only [List.length_cons] at hn hi
    split at h
    · exact h.elim
    · rename_i t hg
      rw [hg]
      refine ⟨fun e => ?_, fun e => aheadG_of hK hl hq l (i + 1) _ U U' (by omega) (by omega) hR (h.2 e)⟩
      obtain ⟨x, ups, V, hV, hs, hrest⟩ := h.1 e
      refine ⟨x, ups, .inl ⟨by omega, V, ?_, hs⟩, aheadG_of hK hl hq l (i + 1) _ (ups ++ U) (ups ++ U') (by omega) (by omega) ⟨fun v hv => ?_, hR.2.1, fun m => by rw [addU_append, addU_append, hR.2.2]⟩ hrest⟩
      · rcases hV with h0 | ⟨v, k, h0, hv, h1, h2, h3, h4⟩
        · exact .inl h0
        · obtain ⟨h5, h6, h7⟩ := hR.1 v hv
          refine .inr ⟨v, k, h0, h5, h6, fun e => h7 (e ▸ ⟨h1, h2⟩), h1, h2, h3, ?_⟩
          rw [hR.2.2, (addU_in (l := U) (m := mh) (i := v.1) ⟨v, hv, rfl⟩).2 (addU R0 mh)]
          exact h4
      · rcases List.mem_append.1 hv with hv | hv
        · have := hs.1 v hv
          exact ⟨List.mem_append_left _ hv, by omega, by omega⟩
        · obtain ⟨h5, h6, h7⟩ := hR.1 v hv
          exact ⟨List.mem_append_right _ h5, h6, h7⟩
theorem aheadG_append {K : List PV → List URow → Prop} : ∀ (l1 l2 : List Oper) (i : Nat) (ts : List PV) (U : List URow), aheadG P base q r ops m mh i l1 ts U (fun ts U => aheadG P base q r ops m mh (i + l1.length) l2 ts U K) → aheadG P base q r ops m mh i (l1 ++ l2) ts U K
  | [], l2, i, ts, U, h => h
  | o :: l1, l2, i, ts, U, h => by
    have e : i + (o :: l1).length = i + 1 + l1.length := by simp only [List.length_cons]; omega
    rw [e] at h
    unfold aheadG at h
    rw [List.cons_append]
    unfold aheadG
    split
    · rename_i hg; rw [hg] at h; exact h
    · rename_i t hg
      rw [hg] at h
      refine ⟨fun e => ?_, fun e => aheadG_append l1 l2 (i + 1) _ _ (h.2 e)⟩
      obtain ⟨x, ups, h1, h2⟩ := h.1 e
      exact ⟨x, ups, h1, aheadG_append l1 l2 (i + 1) _ _ h2⟩
/-- What comes at the write, and behind it. -/
def StoreQ (P : Program) (base : Nat) (ops : Array Oper) (m : Mem) (n q r : Nat) (t' : TypeId) (xs0 : List PV) (oq : Oper) (l2 l3 : List Oper) (K : St → Prop) (ts : List PV) (U : List URow) : Prop :=
  gd ops oq ts = some true ∧ ∃ x t xs1, (∀ m2 : Mem, m2 r = .row t' xs0 → ∀ K' : PV → Mem → Prop, K' x (upd m2 r (.row t xs1)) → aop P (base + 16 * q) oq ⟨ts, m2⟩ K') ∧
      aheadU P base ops (upd m r .free) (q + 1) l2 (putL ts oq.dst x) U fun ts U => aops P base ops n l3 ⟨ts, addU U (upd m r (.row t xs1))⟩ K
theorem StoreQ.mk {n : Nat} {t t' : TypeId} {x : PV} {xs0 xs1 : List PV} {oq : Oper} {l2 l3 : List Oper} {K : St → Prop} {U : List URow} (hg : gd ops oq ts = some true) (hst : ∀ m2 : Mem, m2 r = .row t' xs0 → ∀ K' : PV → Mem → Prop, K' x (upd m2 r (.row t xs1)) → aop P (base + 16 * q) oq ⟨ts, m2⟩ K')
      (hrest : aheadU P base ops (upd m r .free) (q + 1) l2 (putL ts oq.dst x) U fun ts U => aops P base ops n l3 ⟨ts, addU U (upd m r (.row t xs1))⟩ K) : StoreQ P base ops m n q r t' xs0 oq l2 l3 K ts U := ⟨hg, x, t, xs1, hst, hrest⟩
/-- A region that draws its order, with a write (operation q) to a row that stood there and that nothing else in it reads. -/
theorem W.drawS {R : Nat → Prop} {Q : St → Exit → Prop} {id n : Nat} {l l2 : List Oper} {oq : Oper} (q r : Nat) (t' : TypeId) (xs0 : List PV) (hf : P.follows .mixedOrders = true) (hB : drawB l.toArray n = true) (hs : l.length < 1000) (hfr : ∀ k, 16384 * (id + 1) ≤ k → k < 16384 * (id + 1) + 16384 → st.mem k = .free)
    (hr : r < 16384 * (id + 1) ∨ 16384 * (id + 1) + 16384 ≤ r) (hrow : st.mem r = .row t' xs0) (hq : q ≤ n ∧ q ≤ l.length) (ht : (l.take n).drop q = oq :: l2)
    (h : aheadU P (16384 * (id + 1)) l.toArray (upd st.mem r .free) 0 (l.take q) st.tmps [] (StoreQ P (16384 * (id + 1)) l.toArray st.mem n q r t' xs0 oq l2 (l.drop n) fun s => Q s .normal)) : W P R (.region id l.toArray true) st Q := by
  obtain ⟨l1, hl1⟩ : ∃ l1, l1 = l.take q := ⟨_, rfl⟩
  rw [← hl1] at h
  obtain ⟨hqn, hql⟩ := hq
  have hq : l1.length = q := by rw [hl1, List.length_take]; omega
  replace ht : l.take n = l1 ++ oq :: l2 := by
    rw [← ht, hl1]
    conv => lhs; rw [← List.take_append_drop q (l.take n)]
    rw [List.take_take, Nat.min_eq_left hqn]
  have hlen : l1.length + 1 + l2.length ≤ l.length := by
    have := congrArg List.length ht
    simp only [List.length_take, List.length_append, List.length_cons] at this
    omega
  refine W_any hf (aheadG_any (q := q) (r := r) hB (by simpa using hs) (.inl hr) hfr ?_)
  rw [List.toList_toArray, ht]
  refine aheadG_append l1 _ 0 _ _ (aheadG_of (R0 := []) (fun ts U U' hR hU => ?_) hr (by omega) l1 0 _ [] [] (by omega) (.inl (by omega)) ⟨by simp, by simp, fun m => rfl⟩ h)
  obtain ⟨hg, x, t, xs1, hsure, hrest⟩ := hU
  rw [Nat.zero_add, hq]
  have hU' : ∀ m, addU U' m = addU U m := fun m => hR.2.2 m
  unfold aheadG
  rw [hg]
  refine ⟨fun _ => ⟨x, [(r, t, xs1)], .inr ⟨rfl, t, t', xs0, xs1, rfl, ?_, hsure⟩, ?_⟩, fun e => by cases e⟩
  · rw [hU', addU_out (fun v hv e => (hR.1 v hv).2.1 e)]
    exact hrow
  · refine aheadG_of (R0 := [(r, t, xs1)]) (fun ts U U' hR2 hU2 => ?_) hr (by omega) l2 (q + 1) _ U _ (by omega) (.inr (by omega)) ⟨fun v hv => ⟨List.mem_append_right _ (hR.1 v hv).1, (hR.1 v hv).2⟩, by simp, fun m => ?_⟩ hrest
    · have := hR2.2.2 st.mem
      rw [this]
      exact hU2
    · rw [addU_append, hU']
      exact addU_comm (fun u hu v hv e => (hR.1 v hv).2.1 (by rw [← e, List.mem_singleton.1 hu])) m
end Go.Pv
