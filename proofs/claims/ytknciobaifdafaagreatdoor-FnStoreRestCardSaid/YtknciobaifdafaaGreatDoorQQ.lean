/- The engine of this session, part 23: regions that draw their order, with a chain of calls that write to one row. -/
import Derived.Test.YtknciobaifdafaaGreatDoorQN
set_option linter.unusedVariables false
set_option linter.unusedSimpArgs false
namespace Go.Pv
variable {P : Program} {mem m m2 mh : Mem} {st s : St} {o oi oj : Oper} {ops : Array Oper} {base i j r : Nat} {Q : Nat → Bool} {ts : List PV}
def ownM (base : Nat) (Q : Nat → Bool) (r k id : Nat) : Prop := if Q k = true then id = r else base + 16 * k ≤ id ∧ id < base + 16 * k + 16
def zn (P : Program) (key : Nat) (o : Oper) (ts : List PV) (mm : Mem) (c : Nat → Slot) (x : PV) (ups : List URow) : Prop :=
  ∀ m2, ExtM mm m2 → (∀ u ∈ ups, m2 u.1 = c u.1) → ∀ K : PV → Mem → Prop, K x (addU ups m2) → aop P key o ⟨ts, m2⟩ K
theorem zn.same {key : Nat} {mm : Mem} {c : Nat → Slot} {x y : PV} {ups : List URow} {dst : Option Tmp} (h : ∀ d, dst = some d → d ∉ o.looksAt ops) : zn P key o (putL ts dst y) mm c x ups ↔ zn P key o ts mm c x ups := by
  have he : ∀ (m2 : Mem) K, aop P key o ⟨putL ts dst y, m2⟩ K = aop P key o ⟨ts, m2⟩ K := fun m2 K => by
    refine qL (s := ⟨putL ts dst y, m2⟩) (t := ⟨ts, m2⟩) key rfl (fun z hz => qM fun d hd e => h d hd ?_) K
    subst e
    unfold Oper.looksAt
    exact List.mem_append_left _ (List.mem_filterMap.2 ⟨.tmp d, by simpa using hz, rfl⟩)
  unfold zn
  constructor
  · intro h2 m2 a b K hK; rw [← he]; exact h2 m2 a b K hK
  · intro h2 m2 a b K hK; rw [he]; exact h2 m2 a b K hK
def YM (P : Program) (base : Nat) (Q : Nat → Bool) (r : Nat) (ops : Array Oper) (i : Nat) (o : Oper) (x : PV) (ups : List URow) (s : St) : Prop :=
  (gd ops o s.tmps = some true ∧ ∃ (mm : Mem) (c : Nat → Slot), ExtM mm s.mem ∧ (∀ u ∈ ups, s.mem u.1 = c u.1) ∧ (∀ k, k < 1000 → k ≠ i → fC o k → ∀ id, ownM base Q r k id → mm id = .free) ∧ (∀ u ∈ ups, ownM base Q r i u.1) ∧ zn P (base + 16 * i) o s.tmps mm c x ups) ∨
  (gd ops o s.tmps = some false ∧ x = .b undef ∧ ups = [])
theorem YM.keys {x : PV} {ups : List URow} (h : YM P base Q r ops i o x ups s) : ∀ u ∈ ups, ownM base Q r i u.1 := by
  rcases h with ⟨_, _, _, _, _, _, h, _⟩ | ⟨_, _, rfl⟩
  · exact h
  · intro u hu; cases hu
def sM (P : Program) (base : Nat) (Q : Nat → Bool) (r : Nat) (ops : Array Oper) (i : Nat) (K : St → Prop) (s : St) : Prop :=
  match ops[i]? with
  | none => K s
  | some o => ∃ x ups, YM P base Q r ops i o x ups s ∧ K (putS s o x ups)
theorem Qd {K K' : St → Prop} (hk : ∀ s, K s → K' s) (h : sM P base Q r ops i K s) : aAt P base ops i K' s := by
  unfold sM at h
  unfold aAt
  cases ho : ops[i]? with
  | none => simp only [ho] at h ⊢; exact hk _ h
  | some o =>
    simp only [ho] at h ⊢
    obtain ⟨x, ups, hy, hK⟩ := h
    rcases hy with ⟨hg, mm, c, h1, hc, _, _, h2⟩ | ⟨hg, rfl, rfl⟩
    · exact lm hg (h2 s.mem h1 hc (fun x m' => K' (put s o.dst x m')) (hk _ hK))
    · exact jR hg (hk _ hK)
theorem Oz {K K' : St → Prop} (hk : ∀ s, K s → K' s) (h : sM P base Q r ops i K s) : sM P base Q r ops i K' s := by
  unfold sM at *
  cases ho : ops[i]? with
  | none => simp only [ho] at h ⊢; exact hk _ h
  | some o =>
    simp only [ho] at h ⊢
    obtain ⟨x, ups, h1, h2⟩ := h
    exact ⟨x, ups, h1, hk _ h2⟩
def qp (Q : Nat → Bool) (ops : Array Oper) : Prop := ∀ a b ob, Q a = true → Q b = true → a < b → ops[b]? = some ob → ∃ c, a ≤ c ∧ c < b ∧ Q c = true ∧ ∃ e ∈ ob.after, Region.binds .any e = true ∧ e.on = c
theorem DZ {n : Nat} {listed : Array Bool} (hc : qp Q ops) (inv : HeadInv .any ops n listed) {a : Nat} (ha : Q a = true) : ∀ (c : Nat) (oc : Oper), ops[c]? = some oc → Q c = true → a ≤ c → listed.getD c false = true → listed.getD a false = true := by
  intro c
  induction c using Nat.strongRecOn with
  | ind c ih =>
    intro oc hoc hq hac hl
    by_cases e : a = c
    · rw [e]; exact hl
    · obtain ⟨d, h1, h2, h3, ed, h4, h5, h6⟩ := hc a c oc ha hq (by omega) hoc
      have hld := inv.closed c oc hoc hl ed h4 h5
      rw [h6] at hld
      have hd : d < ops.size := by have := (Array.getElem?_eq_some_iff.1 hoc).1; omega
      exact ih d h2 _ (Array.getElem?_eq_getElem hd) h3 h1 hld
theorem JW {n : Nat} {listed : Array Bool} {base : Nat} (hc : qp Q ops) (hr : r < base ∨ base + 16384 ≤ r) (hn3 : n < 1000) (inv : HeadInv .any ops n listed) (hin : i < n) (hjn : j < n) (hji : j ≠ i) (hi : i ∈ Region.ready .any ops listed) (hj : j ∈ Region.ready .any ops listed) : ∀ id, ownM base Q r i id → ownM base Q r j id → False := fun id hii hjj => by
  obtain ⟨hiu, oi, hoi, halli⟩ := mem_ready.1 hi
  obtain ⟨hju, oj, hoj, hallj⟩ := mem_ready.1 hj
  have key : ∀ {a b : Nat} {ob : Oper}, a < b → Q a = true → Q b = true → ops[b]? = some ob → (∀ e ∈ ob.after, Region.binds .any e = true → listed.getD e.on false = true) → listed.getD a false = false → False := fun {a b ob} hab ha hb hob hall hau => by
    obtain ⟨c, h1, h2, h3, e, h4, h5, h6⟩ := hc a b ob ha hb hab hob
    have hl := hall e h4 h5
    rw [h6] at hl
    have hcs : c < ops.size := by have := (Array.getElem?_eq_some_iff.1 hob).1; omega
    have := DZ hc inv ha c _ (Array.getElem?_eq_getElem hcs) h3 h1 hl
    rw [this] at hau
    cases hau
  unfold ownM at hii hjj
  split at hii
  · rename_i hqi
    split at hjj
    · rename_i hqj
      rcases Nat.lt_or_gt_of_ne hji with h | h
      · exact key h hqj hqi hoi halli (getD_both hju)
      · exact key h hqi hqj hoj hallj (getD_both hiu)
    · omega
  · split at hjj
    · omega
    · omega
theorem Qe {x : PV} {upi : List URow} (hd : ∀ id, ownM base Q r i id → ownM base Q r j id → False) (hi : ops[i]? = some oi) (hj : ops[j]? = some oj) (hij : j ≠ i) (hap : oi.apart ops oj = true) (hno : fC oj i) (hno' : fC oi j) (hi3 : i < 1000) (hj3 : j < 1000) {K : St → Prop} (hy : YM P base Q r ops i oi x upi s) (h : sM P base Q r ops j K (putS s oi x upi)) :
    sM P base Q r ops j (fun s' => YM P base Q r ops i oi x upi s' ∧ K (putS s' oi x upi)) s := by
  obtain ⟨h1, h2, h3⟩ := Oper.apart_spec hap
  have hki := hy.keys
  unfold sM at h ⊢
  simp only [hj] at h ⊢
  obtain ⟨y, upj, hyj, hK⟩ := h
  have hkj := hyj.keys
  have hne : ∀ u ∈ upi, ∀ v ∈ upj, u.1 ≠ v.1 := fun u hu v hv e => hd u.1 (hki u hu) (e ▸ hkj v hv)
  refine ⟨y, upj, ?_, ?_, ?_⟩
  · rcases hyj with ⟨hg, mm, c, he, hc, hfr, ho, hs⟩ | ⟨hg, rfl, rfl⟩
    · refine .inl ⟨by rwa [putS, iT h1] at hg, mm, c, fun id hid => ?_, fun u hu => ?_, hfr, ho, (zn.same h1).1 hs⟩
      · have h4 := he id hid
        simp only [putS] at h4
        rwa [bI (i := id) (fun u hu e => hid (hfr i hi3 (Ne.symm hij) hno id (by have := hki u hu; rwa [e] at this)))] at h4
      · have h4 := hc u hu
        simp only [putS] at h4
        rwa [bI (fun v hv => hne v hv u hu)] at h4
    · exact .inr ⟨by rwa [putS, iT h1] at hg, rfl, rfl⟩
  · rcases hy with ⟨hg, mm, c, he, hc, hfr, ho, hs⟩ | ⟨hg, rfl, rfl⟩
    · refine .inl ⟨by rw [putS, iT h3]; exact hg, mm, c, fun id hid => ?_, fun u hu => ?_, hfr, ho, (zn.same h3).2 hs⟩
      · simp only [putS]
        rw [bI (i := id) (fun u hu e => hid (hfr j hj3 hij hno' id (by have := hkj u hu; rwa [e] at this)))]
        exact he id hid
      · simp only [putS]
        rw [bI (fun v hv e => hne u hu v hv e.symm)]
        exact hc u hu
    · exact .inr ⟨by rw [putS, iT h3]; exact hg, rfl, rfl⟩
  · have e : putS (putS s oi x upi) oj y upj = putS (putS s oj y upj) oi x upi := by
      simp only [putS]
      rw [qN _ x y h2, lW (fun v hv u hu => (hne u hu v hv).symm)]
    rw [← e]
    exact hK
def BK (P : Program) (base : Nat) (Q : Nat → Bool) (r : Nat) (ops : Array Oper) (n : Nat) (L : Array Bool → St → Prop) : Nat → Array Bool → St → Prop
  | 0, listed, s => L listed s
  | f + 1, listed, s => Region.ready .any ops listed ≠ [] ∧ ∀ i ∈ Region.ready .any ops listed, i < n ∧ sM P base Q r ops i (BK P base Q r ops n L f (listed.setIfInBounds i true)) s
theorem kW {n g : Nat} {L : Array Bool → St → Prop} {K : St → Prop} (hL : ∀ listed s, L listed s → aAny P base ops K g listed s) :
    ∀ (f : Nat) (listed : Array Bool) (s : St), BK P base Q r ops n L f listed s → aAny P base ops K (f + g) listed s
  | 0, listed, s, h => by rw [Nat.zero_add]; exact hL _ _ h
  | f + 1, listed, s, h => by
    rw [show f + 1 + g = (f + g) + 1 by omega]
    exact ⟨fun h0 => absurd h0 h.1, fun i hi => Qd (fun s' h' => kW hL f _ s' h') (h.2 i hi).2⟩
theorem xQ {n : Nat} {x : PV} {ups : List URow} {L : Array Bool → St → Prop} (hd : qp Q ops) (hlr : r < base ∨ base + 16384 ≤ r) (hi : ops[i]? = some oi) (hn3 : n < 1000)
    (hw : ∀ listed, HeadInv .any ops n listed → ∀ i, i < n → listed.getD i true = false → ∀ t, n ≤ t → t ∉ Region.ready .any ops listed) (hin : i < n)
    (hdone : ∀ listed s, L listed s → ∀ j ∈ Region.ready .any ops listed, n ≤ j) :
    ∀ (f : Nat) (listed : Array Bool) (s : St), HeadInv .any ops n listed →
      (∀ j oj, ops[j]? = some oj → j ≠ i → listed.getD j true = false → (∀ e ∈ oj.after, Region.binds .any e = true → e.on ≠ i) → oi.apart ops oj = true) →
      i ∈ Region.ready .any ops listed → YM P base Q r ops i oi x ups s →
      BK P base Q r ops n L f (listed.setIfInBounds i true) (putS s oi x ups) → BK P base Q r ops n L (f + 1) listed s := by
  intro f
  induction f with
  | zero =>
    intro listed s inv _ hr hy H
    have hun := (mem_ready.1 hr).1
    refine ⟨fun h => (by rw [h] at hr; cases hr), fun j hj => ?_⟩
    have hjn : j < n := by
      rcases Nat.lt_or_ge j n with h | h
      · exact h
      · exact absurd hj (hw listed inv i hin hun j h)
    refine ⟨hjn, ?_⟩
    by_cases hji : j = i
    · subst hji
      unfold sM
      simp only [hi]
      exact ⟨x, ups, hy, H⟩
    · have := hdone _ _ H j (ready_mono hj hji)
      omega
  | succ f ih =>
    intro listed s inv hfree hr hy H
    have hun := (mem_ready.1 hr).1
    refine ⟨fun h => (by rw [h] at hr; cases hr), fun j hj => ?_⟩
    have hjn : j < n := by
      rcases Nat.lt_or_ge j n with h | h
      · exact h
      · exact absurd hj (hw listed inv i hin hun j h)
    refine ⟨hjn, ?_⟩
    by_cases hji : j = i
    · subst hji
      unfold sM
      simp only [hi]
      exact ⟨x, ups, hy, H⟩
    · have h1 := (H.2 j (ready_mono hj hji)).2
      obtain ⟨hjun, oj, hoj, hall⟩ := mem_ready.1 hj
      obtain ⟨_, oi', hoi', halli⟩ := mem_ready.1 hr
      have hoo : oi' = oi := Option.some.inj (hoi'.symm.trans hi)
      subst hoo
      have hnot : ∀ e ∈ oj.after, Region.binds .any e = true → e.on ≠ i := fun e he hb heq => by
        have h1 := hall e he hb
        rw [heq, getD_both hun] at h1
        cases h1
      have hnot' : fC oi' j := fun e he hb heq => by
        have h1 := halli e he hb
        rw [heq, getD_both hjun] at h1
        cases h1
      have h2 := Qe (JW hd hlr hn3 inv hin hjn hji hr hj) hi hoj hji (hfree j oj hoj hji hjun hnot) hnot hnot' (by omega) (by omega) hy h1
      have hfree' : ∀ k ok, ops[k]? = some ok → k ≠ i → (listed.setIfInBounds j true).getD k true = false →
          (∀ e ∈ ok.after, Region.binds .any e = true → e.on ≠ i) → oi'.apart ops ok = true := fun k ok hk hki hun hno => by
        refine hfree k ok hk hki ?_ hno
        by_cases hjk : j = k
        · subst hjk; exact hjun
        · rw [getD_set_ne true hjk] at hun; exact hun
      refine Oz (fun s' h3 => ih (listed.setIfInBounds j true) s' (inv.set hj hjn) hfree' (ready_mono hr (Ne.symm hji)) h3.1 ?_) h2
      rw [Array.setIfInBounds_comm _ _ hji]
      exact h3.2
def iw (P : Program) (base : Nat) (Q : Nat → Bool) (r : Nat) (ops : Array Oper) (m mh : Mem) : Nat → List Oper → List PV → List URow → (List PV → List URow → Prop) → Prop
  | _, [], ts, U, K => K ts U
  | i, o :: rest, ts, U, K => (match gd ops o ts with
    | none => False
    | some t => (t = true → ∃ x ups, ((Q i = false ∧ ∃ V, (V = [] ∨ ∃ v k, V = [v] ∧ v ∈ U ∧ v.1 ≠ r ∧ Q k = false ∧ base + 16 * k ≤ v.1 ∧ v.1 < base + 16 * k + 16 ∧ ¬ fC o k ∧ addU U mh v.1 = .row v.2.1 v.2.2) ∧ mZ P (base + 16 * i) o ts (addU V mh) x ups) ∨
          (Q i = true ∧ ∃ V, (V = [] ∨ ∃ v k, V = [v] ∧ v ∈ U ∧ v.1 ≠ r ∧ Q k = false ∧ base + 16 * k ≤ v.1 ∧ v.1 < base + 16 * k + 16 ∧ ¬ fC o k ∧ addU U mh v.1 = .row v.2.1 v.2.2) ∧ ∃ t t' xs0 xs1, ups = [(r, t, xs1)] ∧ addU U m r = .row t' xs0 ∧ ∀ m2 : Mem, m2 r = .row t' xs0 → (∀ v ∈ V, m2 v.1 = .row v.2.1 v.2.2) → ∀ K' : PV → Mem → Prop, K' x (upd m2 r (.row t xs1)) → aop P (base + 16 * i) o ⟨ts, m2⟩ K')) ∧ iw P base Q r ops m mh (i + 1) rest (putL ts o.dst x) (ups ++ U) K) ∧
      (t = false → iw P base Q r ops m mh (i + 1) rest (putL ts o.dst (.b undef)) U K))
theorem BL {rest : List Oper} {U : List URow} {K : List PV → List URow → Prop} (hl : r < base ∨ base + 16384 ≤ r) (hfr : ∀ id, base ≤ id → id < base + 16384 → m id = .free) (hmh : mh = upd m r .free) (hi : i < 1000)
    (hU : ∀ u ∈ U, ∃ k, k < i ∧ ownM base Q r k u.1) (h : iw P base Q r ops m mh i (o :: rest) ts U K) :
    ∃ x ups, YM P base Q r ops i o x ups ⟨ts, addU U m⟩ ∧ iw P base Q r ops m mh (i + 1) rest (putL ts o.dst x) (ups ++ U) K := by
  unfold iw at h
  split at h
  · exact h.elim
  · rename_i t hg
    cases t with
    | false => exact ⟨.b undef, [], .inr ⟨hg, rfl, rfl⟩, h.2 rfl⟩
    | true =>
      obtain ⟨x, ups, hs, hrest⟩ := h.1 rfl
      refine ⟨x, ups, .inl ⟨hg, ?_⟩, hrest⟩
      have hmhf : ∀ id, base ≤ id → id < base + 16384 → mh id = .free := fun id h1 h2 => by
        rw [hmh]; unfold upd; split
        · rfl
        · exact hfr id h1 h2
      rcases hs with ⟨hiq, V, hV, hs⟩ | ⟨hiq, V, hV, t, t', xs0, xs1, rfl, hr, hs⟩
      · have hfree : ∀ id, base + 16 * i ≤ id → id < base + 16 * i + 16 → addU U m id = .free := fun id h1 h2 => by
          rw [bI (fun v hv e => ?_)]
          · exact hfr id (by omega) (by omega)
          · obtain ⟨k, hk, ho⟩ := hU v hv
            unfold ownM at ho
            split at ho
            · omega
            · omega
        have hext : ∀ id, mh id ≠ .free → addU U m id = mh id := fun id hid => by
          have hne : id ≠ r := fun e => hid (by rw [hmh, e, upd_same])
          have hm : mh id = m id := by rw [hmh, upd_ne _ _ hne]
          rw [bI (fun v hv e => ?_), hm]
          obtain ⟨k, hk, ho⟩ := hU v hv
          unfold ownM at ho
          split at ho
          · omega
          · exact hid (by rw [hm]; exact hfr id (by omega) (by omega))
        refine ⟨addU V mh, fun _ => .free, ?_, fun u hu => ?_, ?_, fun u hu => ?_, hs.2⟩
        · rcases hV with rfl | ⟨v, k, rfl, hv, hvr, hkq, h1, h2, _, h3⟩
          · exact hext
          · intro id hid
            by_cases e : id = v.1
            · subst e
              have := (jV (l := U) (m := mh) (i := v.1) ⟨v, hv, rfl⟩).2 m
              show addU U m v.1 = _
              rw [this, h3]
              simp [addU, upd]
            · have : addU [v] mh id = mh id := by simp [addU, upd, e]
              rw [this] at hid ⊢
              exact hext id hid
        · have h1 := hs.1 u hu
          exact hfree _ h1.1 h1.2
        · intro k hk3 hki hno id ho
          unfold ownM at ho
          rcases hV with rfl | ⟨v, k', rfl, hv, hvr, hkq, h3, h4, h5, h6⟩
          · split at ho
            · subst ho; show mh id = _; rw [hmh, upd_same]
            · exact hmhf id (by omega) (by omega)
          · have hk' : k ≠ k' := fun e => h5 (e ▸ hno)
            have hne : id ≠ v.1 := fun e => by
              split at ho
              · exact hvr (e.symm.trans ho)
              · omega
            have e2 : addU [v] mh id = mh id := by simp [addU, upd, hne]
            rw [e2]
            split at ho
            · subst ho; rw [hmh, upd_same]
            · exact hmhf id (by omega) (by omega)
        · unfold ownM; rw [if_neg (by rw [hiq]; decide)]; exact hs.1 u hu
      · refine ⟨addU V fun _ => .free, fun _ => .row t' xs0, ?_, fun u hu => ?_, ?_, fun u hu => ?_, ?_⟩
        · rcases hV with rfl | ⟨v, k, rfl, hv, hvr, hkq, h1, h2, _, h3⟩
          · exact fun id hid => absurd rfl hid
          · intro id hid
            by_cases e : id = v.1
            · subst e
              have := (jV (l := U) (m := mh) (i := v.1) ⟨v, hv, rfl⟩).2 m
              show addU U m v.1 = _
              rw [this, h3]
              simp [addU, upd]
            · exact absurd (by simp [addU, upd, e]) hid
        · rw [List.mem_singleton.1 hu]; exact hr
        · intro k hk3 hki hno id ho
          unfold ownM at ho
          rcases hV with rfl | ⟨v, k', rfl, hv, hvr, hkq, h3, h4, h5, h6⟩
          · rfl
          · have hk' : k ≠ k' := fun e => h5 (e ▸ hno)
            have hne : id ≠ v.1 := fun e => by
              split at ho
              · exact hvr (e.symm.trans ho)
              · omega
            simp [addU, upd, hne]
        · rw [List.mem_singleton.1 hu]; unfold ownM; rw [if_pos hiq]
        · intro m2 hx hm2 K' hK'
          refine hs m2 (hm2 _ (List.mem_singleton_self _)) (fun v hv => ?_) K' hK'
          rcases hV with rfl | ⟨v', k', rfl, hv', hvr, hkq, h3, h4, h5, h6⟩
          · cases hv
          · rw [List.mem_singleton.1 hv]
            have e : addU [v'] (fun _ => Slot.free) v'.1 = .row v'.2.1 v'.2.2 := by simp [addU, upd]
            rw [← e]
            exact hx v'.1 (by rw [e]; intro h; cases h)
theorem xk {n g : Nat} {Lq : List PV → List URow → Prop} (hl : r < base ∨ base + 16384 ≤ r) (hch : qp Q ops) (hsz : ops.size < 1000) (hfr : ∀ id, base ≤ id → id < base + 16384 → m id = .free) (hmh : mh = upd m r .free) (hn3 : n < 1000)
    (hw : ∀ listed, HeadInv .any ops n listed → ∀ i, i < n → listed.getD i true = false → ∀ t, n ≤ t → t ∉ Region.ready .any ops listed) :
    ∀ (l : List Oper) (k : Nat) (listed : Array Bool) (ts : List PV) (U : List URow), (∀ j, j < l.length → l[j]? = ops[k + j]?) → k + l.length = n → HeadInv .any ops n listed →
    Region.lexHead .any ops g l.length k listed = true → (∀ u ∈ U, ∃ k', k' < k ∧ ownM base Q r k' u.1) → iw P base Q r ops m mh k l ts U Lq →
    BK P base Q r ops n (fun listed' s' => Region.seqB .any ops g n listed' = true ∧ ∃ ts' U', s' = ⟨ts', addU U' m⟩ ∧ Lq ts' U') l.length listed ⟨ts, addU U m⟩
  | [], k, listed, ts, U, _, hk, _, hB, _, h => by
    have : k = n := by simpa using hk
    subst this
    exact ⟨by simpa [Region.lexHead] using hB, ts, U, rfl, h⟩
  | o :: l, k, listed, ts, U, hll, hk, inv, hB, hU, h => by
    have h0 : ops[k]? = some o := by simpa using (hll 0 (by simp)).symm
    simp only [List.length_cons, Region.lexHead, Bool.and_eq_true] at hB
    obtain ⟨⟨hr, hf⟩, hB'⟩ := hB
    have hkn : k < n := by simp only [List.length_cons] at hk; omega
    have hr' : k ∈ Region.ready .any ops listed := by simpa using hr
    obtain ⟨x, ups, hy, hK⟩ := BL hl hfr hmh (by omega) hU h
    have hkeys := hy.keys
    have hrec := xk hl hch hsz hfr hmh hn3 hw l (k + 1) (listed.setIfInBounds k true) (putL ts o.dst x) (ups ++ U) (fun j hj => by have := hll (j + 1) (by simp; omega); simpa [Nat.add_assoc, Nat.add_comm 1 j] using this) (by simp only [List.length_cons] at hk; omega) (inv.set hr' hkn) hB' (fun u hu => by
      rcases List.mem_append.1 hu with hu | hu
      · exact ⟨k, by omega, hkeys u hu⟩
      · obtain ⟨q, h1, h2⟩ := hU u hu
        exact ⟨q, by omega, h2⟩) hK
    rw [bF] at hrec
    exact xQ hch hl h0 hn3 hw hkn (fun listed' s' hL => seqB_ready hL.1) l.length listed ⟨ts, addU U m⟩ inv (Region.free_spec h0 hf) hr' hy hrec
theorem H6 {n : Nat} {K : St → Prop} (hB : jS ops n = true) (hs : ops.size < 1000) (hl : r < base ∨ base + 16384 ≤ r) (hch : qp Q ops) (hfr : ∀ id, base ≤ id → id < base + 16384 → st.mem id = .free)
    (h : iw P base Q r ops st.mem (upd st.mem r .free) 0 (ops.toList.take n) st.tmps [] fun ts U => aops P base ops n (ops.toList.drop n) ⟨ts, addU U st.mem⟩ K) : aAny P base ops K ops.size (Array.replicate ops.size false) st := by
  simp only [jS, Bool.and_eq_true, decide_eq_true_eq, Bool.or_eq_true, beq_iff_eq] at hB
  obtain ⟨⟨hn, hsc⟩, hlex⟩ := hB
  have hw : ∀ listed, HeadInv .any ops n listed → ∀ i, i < n → listed.getD i true = false → ∀ t, n ≤ t → t ∉ Region.ready .any ops listed := fun listed inv i hi hun t ht hr => by
    rcases hsc with rfl | ⟨hs, hc⟩
    · obtain ⟨_, ot, hot, _⟩ := mem_ready.1 hr
      have := (Array.getElem?_eq_some_iff.1 hot).1
      omega
    · by_cases hlt : n < ops.size
      · exact tail_waits hs hc hlt inv _ i rfl hi hun t ht hr
      · obtain ⟨_, ot, hot, _⟩ := mem_ready.1 hr
        have := (Array.getElem?_eq_some_iff.1 hot).1
        omega
  have htl : (ops.toList.take n).length = n := by simp; omega
  have hdl : (ops.toList.drop n).length = ops.size - n := by simp
  have inv0 : HeadInv .any ops n (Array.replicate ops.size false) :=
    ⟨by simp, fun j oj _ hl => (by rw [getD_replicate_false] at hl; cases hl), fun t _ ht => getD_in (by simpa using ht) (getD_replicate_false _ _)⟩
  have H := xk (P := P) (base := base) (g := ops.size - n) hl hch hs hfr rfl (by omega) hw (ops.toList.take n) 0 _ st.tmps [] (fun j hj => by
    have hj' : j < n := by rw [htl] at hj; exact hj
    simp [hj']) (by simpa using htl) inv0 (by rw [htl]; exact hlex) (by simp) h
  have := kW (K := K) (g := ops.size - n) (fun listed s hL => by
    obtain ⟨h1, ts', U', rfl, h2⟩ := hL
    have := lq (ops.toList.drop n) n listed ⟨ts', addU U' st.mem⟩ (fun j => by simp [List.getElem?_drop]) (by rw [hdl]; exact h1) h2
    rwa [hdl] at this) _ _ _ H
  rw [htl, show n + (ops.size - n) = ops.size by omega] at this
  exact this
def RelM (base : Nat) (Q : Nat → Bool) (r : Nat) (R0 U U' : List URow) : Prop := (∀ v ∈ U, v ∈ U' ∧ v.1 ≠ r ∧ ∀ k, Q k = true → ¬ (base + 16 * k ≤ v.1 ∧ v.1 < base + 16 * k + 16)) ∧ (∀ v ∈ R0, v.1 = r) ∧ ∀ m, addU U' m = addU U (addU R0 m)
theorem qP {K K' : List PV → List URow → Prop} {R0 : List URow} (hK : ∀ ts U U', RelM base Q r R0 U U' → K ts U → K' ts U') (hl : r < base ∨ base + 16384 ≤ r) : ∀ (l : List Oper) (i : Nat) (ts : List PV) (U U' : List URow), i + l.length ≤ 1000 → (∀ k, i ≤ k → k < i + l.length → Q k = false) → RelM base Q r R0 U U' →
    aB P base ops mh i l ts U K → iw P base Q r ops m mh i l ts U' K'
  | [], i, ts, U, U', _, _, hR, h => hK _ _ _ hR h
  | o :: l, i, ts, U, U', hn, hi, hR, h => by
    unfold aB at h
    unfold iw
    simp only [List.length_cons] at hn hi
    have hqi := hi i (Nat.le_refl _) (by omega)
    split at h
    · exact h.elim
    · rename_i t hg
      rw [hg]
      refine ⟨fun e => ?_, fun e => qP hK hl l (i + 1) _ U U' (by omega) (fun k h1 h2 => hi k (by omega) (by omega)) hR (h.2 e)⟩
      obtain ⟨x, ups, V, hV, hs, hrest⟩ := h.1 e
      refine ⟨x, ups, .inl ⟨hqi, V, ?_, hs⟩, qP hK hl l (i + 1) _ (ups ++ U) (ups ++ U') (by omega) (fun k h1 h2 => hi k (by omega) (by omega)) ⟨fun v hv => ?_, hR.2.1, fun m => by rw [bF, bF, hR.2.2]⟩ hrest⟩
      · rcases hV with h0 | ⟨v, k, h0, hv, h1, h2, h3, h4⟩
        · exact .inl h0
        · obtain ⟨h5, h6, h7⟩ := hR.1 v hv
          refine .inr ⟨v, k, h0, h5, h6, by rw [Bool.eq_false_iff]; exact fun e => h7 k e ⟨h1, h2⟩, h1, h2, h3, ?_⟩
          rw [hR.2.2, (jV (l := U) (m := mh) (i := v.1) ⟨v, hv, rfl⟩).2 (addU R0 mh)]
          exact h4
      · rcases List.mem_append.1 hv with hv | hv
        · have := hs.1 v hv
          refine ⟨List.mem_append_left _ hv, by omega, fun k hk h => ?_⟩
          have : k = i := by omega
          rw [this, hqi] at hk
          cases hk
        · obtain ⟨h5, h6, h7⟩ := hR.1 v hv
          exact ⟨List.mem_append_right _ h5, h6, h7⟩
theorem nT {K : List PV → List URow → Prop} : ∀ (l1 l2 : List Oper) (i : Nat) (ts : List PV) (U : List URow), iw P base Q r ops m mh i l1 ts U (fun ts U => iw P base Q r ops m mh (i + l1.length) l2 ts U K) → iw P base Q r ops m mh i (l1 ++ l2) ts U K
  | [], l2, i, ts, U, h => h
  | o :: l1, l2, i, ts, U, h => by
    have e : i + (o :: l1).length = i + 1 + l1.length := by simp only [List.length_cons]; omega
    rw [e] at h
    unfold iw at h
    rw [List.cons_append]
    unfold iw
    split
    · rename_i hg; rw [hg] at h; exact h
    · rename_i t hg
      rw [hg] at h
      refine ⟨fun e => ?_, fun e => nT l1 l2 (i + 1) _ _ (h.2 e)⟩
      obtain ⟨x, ups, h1, h2⟩ := h.1 e
      exact ⟨x, ups, h1, nT l1 l2 (i + 1) _ _ h2⟩
def dw (P : Program) (base : Nat) (ops : Array Oper) (m : Mem) (q r : Nat) (t' : TypeId) (xs0 : List PV) (oq : Oper) (KK : List PV → List URow → TypeId → List PV → Prop) (ts : List PV) (U : List URow) : Prop :=
  gd ops oq ts = some true ∧ ∃ x t xs1 V, (V = [] ∨ ∃ v k, V = [v] ∧ v ∈ U ∧ base + 16 * k ≤ v.1 ∧ v.1 < base + 16 * k + 16 ∧ ¬ fC oq k ∧ addU U (upd m r .free) v.1 = .row v.2.1 v.2.2) ∧
    (∀ m2 : Mem, m2 r = .row t' xs0 → (∀ v ∈ V, m2 v.1 = .row v.2.1 v.2.2) → ∀ K' : PV → Mem → Prop, K' x (upd m2 r (.row t xs1)) → aop P (base + 16 * q) oq ⟨ts, m2⟩ K') ∧ KK (putL ts oq.dst x) U t xs1
theorem dw.mk0 {m : Mem} {q : Nat} {t t' : TypeId} {x : PV} {xs0 xs1 : List PV} {oq : Oper} {KK : List PV → List URow → TypeId → List PV → Prop} {U : List URow} (hg : gd ops oq ts = some true)
    (hst : ∀ m2 : Mem, m2 r = .row t' xs0 → ∀ K' : PV → Mem → Prop, K' x (upd m2 r (.row t xs1)) → aop P (base + 16 * q) oq ⟨ts, m2⟩ K') (hrest : KK (putL ts oq.dst x) U t xs1) : dw P base ops m q r t' xs0 oq KK ts U := ⟨hg, x, t, xs1, [], .inl rfl, fun m2 h _ => hst m2 h, hrest⟩
theorem dw.mk1 {m : Mem} {q k : Nat} {v : URow} {t t' : TypeId} {x : PV} {xs0 xs1 : List PV} {oq : Oper} {KK : List PV → List URow → TypeId → List PV → Prop} {U : List URow} (hg : gd ops oq ts = some true) (hv : v ∈ U) (h1 : base + 16 * k ≤ v.1) (h2 : v.1 < base + 16 * k + 16) (he : ¬ fC oq k) (hrow : addU U (upd m r .free) v.1 = .row v.2.1 v.2.2)
    (hst : ∀ m2 : Mem, m2 r = .row t' xs0 → m2 v.1 = .row v.2.1 v.2.2 → ∀ K' : PV → Mem → Prop, K' x (upd m2 r (.row t xs1)) → aop P (base + 16 * q) oq ⟨ts, m2⟩ K') (hrest : KK (putL ts oq.dst x) U t xs1) : dw P base ops m q r t' xs0 oq KK ts U :=
  ⟨hg, x, t, xs1, [v], .inr ⟨v, k, rfl, hv, h1, h2, he, hrow⟩, fun m2 h h' => hst m2 h (h' v (List.mem_singleton_self _)), hrest⟩
def iH (P : Program) (base : Nat) (ops : Array Oper) (m : Mem) (r : Nat) (K : List PV → List URow → TypeId → List PV → Prop) : Nat → List (List Oper × Oper) → List Oper → List PV → List URow → TypeId → List PV → Prop
  | i, [], l, ts, U, t, xs => aB P base ops (upd m r .free) i l ts U fun ts U => K ts U t xs
  | i, (l1, oq) :: rest, l, ts, U, t, xs => aB P base ops (upd m r .free) i l1 ts U (dw P base ops m (i + l1.length) r t xs oq fun ts U t xs => iH P base ops m r K (i + l1.length + 1) rest l ts U t xs)
def ng : List (List Oper × Oper) → List Oper → List Oper
  | [], l => l
  | (l1, oq) :: rest, l => l1 ++ oq :: ng rest l
def posM : Nat → List (List Oper × Oper) → List Nat
  | _, [] => []
  | i, (l1, _) :: rest => (i + l1.length) :: posM (i + l1.length + 1) rest
theorem Jf : ∀ (rest : List (List Oper × Oper)) (i k : Nat), k ∈ posM i rest → i ≤ k
  | [], i, k, h => by cases h
  | (l1, o) :: rest, i, k, h => by
    rcases List.mem_cons.1 h with rfl | h
    · omega
    · have := Jf rest _ _ h; omega
theorem qQ {K : List PV → List URow → TypeId → List PV → Prop} {K' : List PV → List URow → Prop} (hl : r < base ∨ base + 16384 ≤ r) : ∀ (segs : List (List Oper × Oper)) (l : List Oper) (i : Nat) (ts : List PV) (U U' R0 : List URow) (t : TypeId) (xs : List PV), i + (ng segs l).length ≤ 1000 → (∀ k, i ≤ k → k < i + (ng segs l).length → (Q k = true ↔ k ∈ posM i segs)) →
    RelM base Q r R0 U U' → addU R0 m r = .row t xs → (∀ k, k ≠ r → addU R0 m k = m k) →
    (∀ ts U U' R0 t xs, RelM base Q r R0 U U' → addU R0 m r = .row t xs → (∀ k, k ≠ r → addU R0 m k = m k) → K ts U t xs → K' ts U') →
    iH P base ops m r K i segs l ts U t xs → iw P base Q r ops m (upd m r .free) i (ng segs l) ts U' K'
  | [], l, i, ts, U, U', R0, t, xs, hn, hQ, hR, h0, h1, hK, h => by
    refine qP (R0 := R0) (fun ts U U' hR hU => hK ts U U' R0 t xs hR h0 h1 hU) hl l i ts U U' hn (fun k a b => ?_) hR h
    rw [Bool.eq_false_iff]
    intro e
    have := (hQ k a b).1 e
    cases this
  | (l1, oq) :: rest, l, i, ts, U, U', R0, t, xs, hn, hQ, hR, h0, h1, hK, h => by
    have hlen : (ng ((l1, oq) :: rest) l).length = l1.length + 1 + (ng rest l).length := by
      show (l1 ++ oq :: ng rest l).length = _
      simp only [List.length_append, List.length_cons]; omega
    rw [hlen] at hn hQ
    show iw P base Q r ops m (upd m r .free) i (l1 ++ oq :: ng rest l) ts U' K'
    refine nT l1 _ i ts U' (qP (R0 := R0) (fun ts U U' hR hU => ?_) hl l1 i ts U U' (by omega) (fun k a b => ?_) hR h)
    · obtain ⟨hg, x, t2, xs1, V, hV, hst, hrest⟩ := hU
      have hq : Q (i + l1.length) = true := (hQ _ (by omega) (by omega)).2 (List.mem_cons_self ..)
      unfold iw
      rw [hg]
      refine ⟨fun _ => ⟨x, [(r, t2, xs1)], .inr ⟨hq, V, ?_, t2, t, xs, xs1, rfl, ?_, hst⟩, ?_⟩, fun e => by cases e⟩
      · rcases hV with rfl | ⟨v, k, rfl, hv, a, b, c, d⟩
        · exact .inl rfl
        · obtain ⟨h5, h6, h7⟩ := hR.1 v hv
          refine .inr ⟨v, k, rfl, h5, h6, by rw [Bool.eq_false_iff]; exact fun e => h7 k e ⟨a, b⟩, a, b, c, ?_⟩
          rw [hR.2.2, (jV (l := U) (m := upd m r .free) (i := v.1) ⟨v, hv, rfl⟩).2 (addU R0 (upd m r .free))]
          exact d
      · rw [hR.2.2, bI (fun v hv e => (hR.1 v hv).2.1 e)]
        exact h0
      · refine qQ hl rest l (i + l1.length + 1) _ U _ ((r, t2, xs1) :: R0) t2 xs1 (by omega) (fun k a b => ?_) ⟨fun v hv => ⟨List.mem_append_right _ (hR.1 v hv).1, (hR.1 v hv).2⟩, fun v hv => ?_, fun mm => ?_⟩ ?_ (fun k hk => ?_) hK hrest
        · rw [hQ k (by omega) (by omega)]
          show k ∈ (i + l1.length) :: posM (i + l1.length + 1) rest ↔ _
          rw [List.mem_cons]
          exact ⟨fun h => h.resolve_left (by omega), .inr⟩
        · rcases List.mem_cons.1 hv with rfl | hv
          · rfl
          · exact hR.2.1 v hv
        · show addU ([(r, t2, xs1)] ++ U') mm = addU U (addU ([(r, t2, xs1)] ++ R0) mm)
          rw [bF, bF, hR.2.2]
          exact lW (fun u hu v hv e => (hR.1 v hv).2.1 (by rw [← e, List.mem_singleton.1 hu])) (addU R0 mm)
        · show addU ([(r, t2, xs1)] ++ R0) m r = _
          rw [bF]
          simp [addU, upd]
        · show addU ([(r, t2, xs1)] ++ R0) m k = _
          rw [bF]
          have : addU [(r, t2, xs1)] (addU R0 m) k = addU R0 m k := by simp [addU, upd, hk]
          rw [this]
          exact h1 k hk
    · rw [Bool.eq_false_iff]
      intro e
      have := (hQ k a (by omega)).1 e
      rcases List.mem_cons.1 this with rfl | h
      · omega
      · have := Jf rest _ _ h; omega
def chainB (ops : List Oper) : List Nat → Bool
  | [] => true
  | [_] => true
  | a :: b :: l => (match ops[b]? with | some ob => ob.after.any (fun e => Region.binds .any e && e.on == a) | none => false) && decide (a < b) && chainB ops (b :: l)
theorem qw {l : List Oper} : ∀ (ps : List Nat), chainB l ps = true → (∀ a ∈ ps, ∀ b ∈ ps, a < b → ∀ ob, l[b]? = some ob → ∃ c, a ≤ c ∧ c < b ∧ c ∈ ps ∧ ∃ e ∈ ob.after, Region.binds .any e = true ∧ e.on = c) ∧ (∀ p ps', ps = p :: ps' → ∀ x ∈ ps', p < x)
  | [], _ => ⟨by simp, by simp⟩
  | [p], _ => ⟨by simp, fun p ps' e x hx => by cases e; cases hx⟩
  | p :: q :: ps, h => by
    unfold chainB at h
    rw [Bool.and_eq_true, Bool.and_eq_true] at h
    obtain ⟨⟨h1, h2⟩, h3⟩ := h
    have h2 := of_decide_eq_true h2
    obtain ⟨ih1, ih2⟩ := qw (q :: ps) h3
    have hgt : ∀ x ∈ q :: ps, p < x := fun x hx => by
      rcases List.mem_cons.1 hx with rfl | hx
      · exact h2
      · have := ih2 q ps rfl x hx; omega
    refine ⟨fun a ha b hb hab ob hob => ?_, fun p' ps' e x hx => by cases e; exact hgt x hx⟩
    rcases List.mem_cons.1 hb with rfl | hb'
    · rcases List.mem_cons.1 ha with rfl | ha'
      · omega
      · have := hgt a ha'; omega
    · rcases List.mem_cons.1 ha with rfl | ha'
      · rcases List.mem_cons.1 hb' with rfl | hb2
        · rw [hob] at h1
          simp only [Array.any_eq_true, Bool.and_eq_true, beq_iff_eq] at h1
          obtain ⟨k, hk, h4, h5⟩ := h1
          exact ⟨a, Nat.le_refl _, hab, List.mem_cons_self .., _, Array.getElem_mem hk, h4, h5⟩
        · obtain ⟨c, c1, c2, c3, c4⟩ := ih1 q (List.mem_cons_self ..) b hb' (ih2 q ps rfl b hb2) ob hob
          exact ⟨c, by omega, c2, List.mem_cons_of_mem _ c3, c4⟩
      · obtain ⟨c, c1, c2, c3, c4⟩ := ih1 a ha' b hb' hab ob hob
        exact ⟨c, c1, c2, List.mem_cons_of_mem _ c3, c4⟩
theorem W.drawM {R : Nat → Prop} {Z : St → Exit → Prop} {id n : Nat} {l : List Oper} (r : Nat) (t : TypeId) (xs : List PV) (segs : List (List Oper × Oper)) (lt : List Oper) (hf : P.follows .mixedOrders = true) (hB : jS l.toArray n = true) (hs : l.length < 1000) (hfr : ∀ k, 16384 * (id + 1) ≤ k → k < 16384 * (id + 1) + 16384 → st.mem k = .free)
    (hr : r < 16384 * (id + 1) ∨ 16384 * (id + 1) + 16384 ≤ r) (hrow : st.mem r = .row t xs) (ht : l.take n = ng segs lt) (hch : chainB l (posM 0 segs) = true)
    (h : iH P (16384 * (id + 1)) l.toArray st.mem r (fun ts U t xs => aops P (16384 * (id + 1)) l.toArray n (l.drop n) ⟨ts, addU U (upd st.mem r (.row t xs))⟩ fun s => Z s .normal) 0 segs lt st.tmps [] t xs) : W P R (.region id l.toArray true) st Z := by
  have hlen : (ng segs lt).length ≤ l.length := by rw [← ht, List.length_take]; omega
  have hc : qp (fun k => (posM 0 segs).contains k) l.toArray := fun a b ob ha hb hab hob => by
    have := (qw _ hch).1 a (by simpa using ha) b (by simpa using hb) hab ob (by simpa using hob)
    obtain ⟨c, c1, c2, c3, c4⟩ := this
    exact ⟨c, c1, c2, by simpa using c3, c4⟩
  refine ES hf (H6 (Q := fun k => (posM 0 segs).contains k) (r := r) hB (by simpa using hs) hr hc hfr ?_)
  rw [List.toList_toArray, ht]
  refine qQ hr segs lt 0 st.tmps [] [] [] t xs (by omega) (fun k _ _ => by simp) ⟨by simp, by simp, fun m => rfl⟩ hrow (fun k _ => rfl) (fun ts U U' R0 t xs hR h0 h1 hK => ?_) h
  have e : addU U' st.mem = addU U (upd st.mem r (.row t xs)) := by
    rw [hR.2.2]
    congr 1
    funext k
    by_cases hk : k = r
    · rw [hk, h0, upd_same]
    · rw [h1 k hk, upd_ne _ _ hk]
  rw [e]
  exact hK
end Go.Pv
set_option linter.unusedVariables false
set_option linter.unusedSimpArgs false
namespace Go.Pv
variable {P : Program} {R : Nat → Prop} {mem : Mem}
def sg (a K : Nat) : Nat → Nat := fun i => if i = 0 then a else K + (i - 1)
def sg2 (a b : Nat) : Nat → Nat := fun i => if i = 0 then a else b
theorem aK.frame1 {f : FuncId} {args : List PV} {r : PV} {t0 : TypeId} {xs0 ys0 : List PV} {news : List (TypeId × List PV)} {a : Nat} (K : Nat)
    (hok : OkS P f args [(t0, xs0)] R r ((t0, ys0) :: news)) (hR0 : R 0) (ha : mem a = .row t0 xs0) (hx : xs0.map (renC (sg a K)) = xs0) (hy : ys0.map (renC (sg a K)) = ys0) (hnews : ∀ e ∈ news, e.2.map (renC (sg a K)) = e.2)
    (hK : ∀ i, i < news.length → mem (K + i) = .free) (harg : ∀ x ∈ args, AOk P x ∧ inA 1 x) (hi0 : ∀ z ∈ xs0, HOk P z ∧ inC 1 z) (hr : GOk P r) (ho0 : ∀ z ∈ ys0, HOk P z) (hon : ∀ e ∈ news, ∀ z ∈ e.2, HOk P z) :
    aK P f (args.map (renA (sg a K))) mem fun y m => y = ren (sg a K) r ∧ m = upd (aH K news mem) a (.row t0 ys0) := by
  have hne : ∀ i, i < news.length → K + i ≠ a := fun i hi e => by
    have := hK i hi
    rw [e, ha] at this
    cases this
  refine aK.frame (sg a K) (sg a K) _ hok ?_ ?_ harg ?_ ?_ ?_ hr ?_ ?_ ?_ ?_
  · intro i e he
    rcases i with _ | i
    · simp at he; subst he; rw [hx]; exact ha
    · simp at he
  · intro i j hi hj _
    simp only [List.length_cons, List.length_nil] at hi hj
    omega
  · intro e he z hz
    rw [List.mem_singleton.1 he] at hz
    exact hi0 z hz
  · intro j hj
    rcases j with _ | j
    · exact .inl ⟨hR0, by simp, rfl⟩
    · simp only [List.length_cons] at hj
      exact .inr (by show mem (K + (j + 1 - 1)) = .free; exact hK _ (by omega))
  · intro i j hi hj e
    simp only [List.length_cons] at hi hj
    unfold sg at e
    rcases i with _ | i <;> rcases j with _ | j
    · rfl
    · simp at e; exact absurd e.symm (hne j (by omega))
    · simp at e; exact absurd e (hne i (by omega))
    · simp at e; omega
  · intro e he z hz
    rcases List.mem_cons.1 he with rfl | he
    · exact ho0 z hz
    · exact hon e he z hz
  · intro j e he
    rcases j with _ | j
    · simp at he; subst he; rw [hy]; exact upd_same ..
    · have hj : j < news.length := by
        have := (List.getElem?_eq_some_iff.1 he).1
        simpa using this
      have he' : news[j]? = some e := by simpa using he
      rw [hnews e (List.mem_of_getElem? he')]
      show upd _ a _ (K + (j + 1 - 1)) = _
      rw [upd_ne _ _ (by have := hne j hj; simpa using this), show j + 1 - 1 = j by omega]
      exact eF news K mem j e he'
  · intro k hk
    have k0 : k ≠ a := fun e => hk 0 (by simp) e.symm
    rw [upd_ne _ _ k0]
    refine .inl (jw news K mem k ?_)
    rcases Nat.lt_or_ge k K with h | h
    · exact .inl h
    · rcases Nat.lt_or_ge k (K + news.length) with h2 | h2
      · exact absurd (by show K + (k - K + 1 - 1) = k; omega) (hk (k - K + 1) (by simp; omega))
      · exact .inr h2
  · intro i hi hk
    simp only [List.length_cons, List.length_nil] at hi
    have e : i = 0 := by omega
    subst e
    exact absurd rfl (hk 0 (by simp))
theorem aK.frame2 {f : FuncId} {args : List PV} {r : PV} {t0 t1 : TypeId} {xs0 ys0 xs1 : List PV} {a b : Nat}
    (hok : OkS P f args [(t0, xs0), (t1, xs1)] R r [(t0, ys0), (t1, xs1)]) (hR0 : R 0) (hR1 : R 1) (ha : mem a = .row t0 xs0) (hb : mem b = .row t1 xs1) (hab : a ≠ b) (hx : xs0.map (renC (sg2 a b)) = xs0) (hy : ys0.map (renC (sg2 a b)) = ys0) (hx1 : xs1.map (renC (sg2 a b)) = xs1)
    (harg : ∀ x ∈ args, AOk P x ∧ inA 2 x) (hi0 : ∀ z ∈ xs0, HOk P z ∧ inC 2 z) (hi1 : ∀ z ∈ xs1, HOk P z ∧ inC 2 z) (hr : GOk P r) (ho0 : ∀ z ∈ ys0, HOk P z) :
    aK P f (args.map (renA (sg2 a b))) mem fun y m => y = ren (sg2 a b) r ∧ m = upd mem a (.row t0 ys0) := by
  refine aK.frame (sg2 a b) (sg2 a b) _ hok ?_ ?_ harg ?_ ?_ ?_ hr ?_ ?_ ?_ ?_
  · intro i e he
    rcases i with _ | _ | i
    · simp at he; subst he; rw [hx]; exact ha
    · simp at he; subst he; rw [hx1]; exact hb
    · simp at he
  · intro i j hi hj e
    simp only [List.length_cons, List.length_nil] at hi hj
    have hi' : i = 0 ∨ i = 1 := by omega
    have hj' : j = 0 ∨ j = 1 := by omega
    rcases hi' with rfl | rfl <;> rcases hj' with rfl | rfl <;> simp [sg2] at e <;> first | rfl | exact absurd e hab | exact absurd e.symm hab
  · intro e he z hz
    simp only [List.mem_cons, List.not_mem_nil, or_false] at he
    rcases he with rfl | rfl
    · exact hi0 z hz
    · exact hi1 z hz
  · intro j hj
    simp only [List.length_cons, List.length_nil] at hj
    have hj' : j = 0 ∨ j = 1 := by omega
    rcases hj' with rfl | rfl
    · exact .inl ⟨hR0, by simp, rfl⟩
    · exact .inl ⟨hR1, by simp, rfl⟩
  · intro i j hi hj e
    simp only [List.length_cons, List.length_nil] at hi hj
    have hi' : i = 0 ∨ i = 1 := by omega
    have hj' : j = 0 ∨ j = 1 := by omega
    rcases hi' with rfl | rfl <;> rcases hj' with rfl | rfl <;> simp [sg2] at e <;> first | rfl | exact absurd e hab | exact absurd e.symm hab
  · intro e he z hz
    simp only [List.mem_cons, List.not_mem_nil, or_false] at he
    rcases he with rfl | rfl
    · exact ho0 z hz
    · exact (hi1 z hz).1
  · intro j e he
    rcases j with _ | _ | j
    · simp at he; subst he; rw [hy]; exact upd_same ..
    · simp at he; subst he; rw [hx1]; show upd _ a _ b = _; rw [upd_ne _ _ (Ne.symm hab)]; exact hb
    · simp at he
  · intro k hk
    have k0 : k ≠ a := fun e => hk 0 (by simp) e.symm
    rw [upd_ne _ _ k0]
    exact .inl rfl
  · intro i hi hk
    simp only [List.length_cons, List.length_nil] at hi
    have hi' : i = 0 ∨ i = 1 := by omega
    rcases hi' with rfl | rfl
    · exact absurd rfl (hk 0 (by simp))
    · exact absurd rfl (hk 1 (by simp))
end Go.Pv
set_option linter.unusedVariables false
set_option linter.unusedSimpArgs false
namespace Go.Pv
variable {P : Program} {R : Nat → Prop} {mem : Mem}
theorem aK.frameId {f : FuncId} {args : List PV} {r : PV} {rin : List (TypeId × List PV)} (σ : Nat → Nat) (hok : OkS P f args rin R r rin) (hR : ∀ i, i < rin.length → R i)
    (hmem : ∀ i e, rin[i]? = some e → mem (σ i) = .row e.1 e.2) (hre : ∀ e ∈ rin, e.2.map (renC σ) = e.2) (hinj : ∀ i j, i < rin.length → j < rin.length → σ i = σ j → i = j)
    (harg : ∀ x ∈ args, AOk P x ∧ inA rin.length x) (hrin : ∀ e ∈ rin, ∀ z ∈ e.2, HOk P z ∧ inC rin.length z) (hr : GOk P r) : aK P f (args.map (renA σ)) mem fun y m => y = ren σ r ∧ m = mem := by
  refine aK.frame σ σ mem hok (fun i e he => ?_) hinj harg hrin (fun j hj => .inl ⟨hR j hj, hj, rfl⟩) hinj hr (fun e he z hz => (hrin e he z hz).1) (fun j e he => ?_) (fun k _ => .inl rfl) (fun i hi hk => absurd rfl (hk i hi))
  · rw [hre e (List.mem_of_getElem? he)]; exact hmem i e he
  · rw [hre e (List.mem_of_getElem? he)]; exact hmem j e he
section
variable {m0 : Mem} {o : Oper} {ops : Array Oper} {base i : Nat} {ts : List PV} {U : List URow} {c : Call} {fo : Operand} {f : FuncId} {x : PV} {rest : List Oper} {L : List PV → List URow → Prop}
theorem D5 {v : URow} {k : Nat} (hg : gd ops o ts = some true) (ho : o.op = .call c) (hc : c.callee = .value fo) (hf : St.eval ⟨ts, m0⟩ fo = .b (.func (.func f) #[] #[])) (hcal : callable P f = true)
    (hv : v ∈ U) (h1 : base + 16 * k ≤ v.1) (h2 : v.1 < base + 16 * k + 16) (he : ¬ fC o k) (hrow : addU U m0 v.1 = .row v.2.1 v.2.2)
    (hM : ∀ m2, ExtM (addU [v] m0) m2 → aK P f (c.args.toList.map (St.eval ⟨ts, m0⟩)) m2 fun y m => y = x ∧ m = m2) (h : aB P base ops m0 (i + 1) rest (putL ts o.dst x) U L) : aB P base ops m0 i (o :: rest) ts U L := by
  unfold aB
  rw [hg]
  refine ⟨fun _ => ⟨x, [], [v], .inr ⟨v, k, rfl, hv, h1, h2, he, hrow⟩, And.intro (fun u hu => by cases hu) (fun m2 hx hfree K' hK' => ?_), h⟩, fun e => by cases e⟩
  have evl : ∀ (xs : List Operand), xs.map (St.eval ⟨ts, m2⟩) = xs.map (St.eval ⟨ts, m0⟩) := fun xs => List.map_congr_left fun x _ => by cases x <;> rfl
  have hf2 : St.eval ⟨ts, m2⟩ fo = .b (.func (.func f) #[] #[]) := by rw [← hf]; cases fo <;> rfl
  unfold aop
  simp only [ho, hc, hf2]
  refine ⟨hcal, trivial, trivial, _, _, ?_, hK'⟩
  rw [evl]
  exact hM m2 hx
end
end Go.Pv
