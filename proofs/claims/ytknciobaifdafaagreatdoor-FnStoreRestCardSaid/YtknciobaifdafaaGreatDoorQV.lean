/- The engine of this session, part 26: chains of writing calls, by their places. -/
import Derived.Test.YtknciobaifdafaaGreatDoorQQ
set_option linter.unusedVariables false
set_option linter.unusedSimpArgs false
namespace Go.Pv
variable {P : Program} {mem m : Mem} {st : St} {r : Nat} {Q : Nat → Bool} {ts : List PV}
def cutM : Nat → List Nat → List Oper → List (List Oper × Oper) × List Oper
  | _, [], l => ([], l)
  | i, q :: qs, l => match l.drop (q - i) with
    | [] => ([], l)
    | o :: t => ((l.take (q - i), o) :: (cutM (q + 1) qs t).1, (cutM (q + 1) qs t).2)
theorem qR : ∀ (qs : List Nat) (i : Nat) (l : List Oper), ng (cutM i qs l).1 (cutM i qs l).2 = l
  | [], i, l => rfl
  | q :: qs, i, l => by
    unfold cutM
    split
    · rfl
    · rename_i o t h
      show l.take (q - i) ++ o :: ng (cutM (q + 1) qs t).1 (cutM (q + 1) qs t).2 = l
      rw [qR qs (q + 1) t, ← h, List.take_append_drop]
theorem W.drawMp {R : Nat → Prop} {Z : St → Exit → Prop} {id n : Nat} {l : List Oper} (r : Nat) {t : TypeId} {xs : List PV} (qs : List Nat) (hf : P.follows .mixedOrders = true) (hB : jS l.toArray n = true) (hs : l.length < 1000) (hfr : ∀ k, 16384 * (id + 1) ≤ k → k < 16384 * (id + 1) + 16384 → st.mem k = .free)
    (hr : r < 16384 * (id + 1) ∨ 16384 * (id + 1) + 16384 ≤ r) (hrow : st.mem r = .row t xs) (hch : chainB l (posM 0 (cutM 0 qs (l.take n)).1) = true)
    (h : iH P (16384 * (id + 1)) l.toArray st.mem r (fun ts U t xs => aops P (16384 * (id + 1)) l.toArray n (l.drop n) ⟨ts, addU U (upd st.mem r (.row t xs))⟩ fun s => Z s .normal) 0 (cutM 0 qs (l.take n)).1 (cutM 0 qs (l.take n)).2 st.tmps [] t xs) : W P R (.region id l.toArray true) st Z :=
  W.drawM r t xs (cutM 0 qs (l.take n)).1 (cutM 0 qs (l.take n)).2 hf hB hs hfr hr hrow (qR qs 0 (l.take n)).symm hch h
section
variable {m0 : Mem} {oq : Oper} {ops : Array Oper} {base q : Nat} {U : List URow} {c : Call} {fo : Operand} {f : FuncId} {x : PV} {t t' : TypeId} {xs0 xs1 : List PV} {KK : List PV → List URow → TypeId → List PV → Prop}
theorem Ff {key : Nat} {m2 mh : Mem} {K' : PV → Mem → Prop} {m' : Mem} (ho : oq.op = .call c) (hc : c.callee = .value fo) (hf : St.eval ⟨ts, mh⟩ fo = .b (.func (.func f) #[] #[])) (hcal : callable P f = true)
    (hM : aK P f (c.args.toList.map (St.eval ⟨ts, mh⟩)) m2 fun y m => y = x ∧ m = m') (hK : K' x m') : aop P key oq ⟨ts, m2⟩ K' := by
  have evl : ∀ (xs : List Operand), xs.map (St.eval ⟨ts, m2⟩) = xs.map (St.eval ⟨ts, mh⟩) := fun xs => List.map_congr_left fun x _ => by cases x <;> rfl
  have hf2 : St.eval ⟨ts, m2⟩ fo = .b (.func (.func f) #[] #[]) := by rw [← hf]; cases fo <;> rfl
  unfold aop
  simp only [ho, hc, hf2]
  refine ⟨hcal, trivial, trivial, _, _, ?_, hK⟩
  rw [evl]
  exact hM
theorem dw.call0 (hg : gd ops oq ts = some true) (ho : oq.op = .call c) (hc : c.callee = .value fo) (hf : St.eval ⟨ts, bM⟩ fo = .b (.func (.func f) #[] #[])) (hcal : callable P f = true)
    (hM : ∀ m2 : Mem, m2 r = .row t' xs0 → aK P f (c.args.toList.map (St.eval ⟨ts, bM⟩)) m2 fun y mm => y = x ∧ mm = upd m2 r (.row t xs1)) (hrest : KK (putL ts oq.dst x) U t xs1) : dw P base ops m q r t' xs0 oq KK ts U :=
  dw.mk0 (x := x) (t := t) (xs1 := xs1) hg (fun m2 h2 K' hK' => Ff ho hc hf hcal (hM m2 h2) hK') hrest
theorem dw.call1 {v : URow} (k : Nat) (hg : gd ops oq ts = some true) (ho : oq.op = .call c) (hc : c.callee = .value fo) (hf : St.eval ⟨ts, bM⟩ fo = .b (.func (.func f) #[] #[])) (hcal : callable P f = true)
    (hv : v ∈ U) (h1 : base + 16 * k ≤ v.1) (h2 : v.1 < base + 16 * k + 16) (he : (oq.after.any fun e => Region.binds .any e && e.on == k) = true) (hrow : addU U (upd m r .free) v.1 = .row v.2.1 v.2.2)
    (hM : ∀ m2 : Mem, m2 r = .row t' xs0 → m2 v.1 = .row v.2.1 v.2.2 → aK P f (c.args.toList.map (St.eval ⟨ts, bM⟩)) m2 fun y mm => y = x ∧ mm = upd m2 r (.row t xs1)) (hrest : KK (putL ts oq.dst x) U t xs1) : dw P base ops m q r t' xs0 oq KK ts U :=
  dw.mk1 (x := x) (t := t) (xs1 := xs1) hg hv h1 h2 (fun hn => by
    obtain ⟨e, h3, h4⟩ := Array.any_eq_true'.1 he
    simp only [Bool.and_eq_true, beq_iff_eq] at h4
    exact hn e h3 h4.1 h4.2) hrow (fun m2 h3 h4 K' hK' => Ff ho hc hf hcal (hM m2 h3 h4) hK') hrest
end
end Go.Pv
set_option linter.unusedVariables false
set_option linter.unusedSimpArgs false
namespace Go.Pv
variable {P : Program} {mem m m2 mh : Mem} {st s : St} {o oi oj : Oper} {ops : Array Oper} {base i j r : Nat} {Q : Nat → Bool} {ts : List PV}
def Jg (ops : Array Oper) (n : Nat) : Bool := (List.range ops.size).all fun t => decide (t ≤ n) || (List.range t).any fun j => decide (n ≤ j) && Region.waitsFor .any ops t j
theorem Fg {n : Nat} {listed : Array Bool} (hs : Region.sinkB .any ops n = true) (hc : Jg ops n = true) (hn : n < ops.size) (inv : HeadInv .any ops n listed) :
    ∀ (d i : Nat), n - i = d → i < n → listed.getD i true = false → ∀ t, n ≤ t → t ∉ Region.ready .any ops listed := by
  intro d
  induction d using Nat.strongRecOn with
  | _ d ih =>
    intro i hd hi hun t ht hr
    obtain ⟨_, ot, hot, hall⟩ := mem_ready.1 hr
    have htlt : t < ops.size := (Array.getElem?_eq_some_iff.1 hot).1
    by_cases htn : t = n
    · subst htn
      have h1 := List.all_eq_true.1 hs i (List.mem_range.2 hi)
      obtain ⟨j, hj, hj2⟩ := List.any_eq_true.1 h1
      simp only [Bool.and_eq_true, decide_eq_true_eq] at hj2
      obtain ⟨oj, hoj, e, he, hb, hon⟩ := Region.waitsFor_spec hj2.2
      have hjle : j ≤ t := by have := List.mem_range.1 hj; omega
      by_cases hjt : j = t
      · subst hjt
        have : oj = ot := Option.some.inj (hoj.symm.trans hot)
        subst this
        have h2 := hall e he hb
        rw [hon, getD_both hun] at h2
        cases h2
      · cases hl : listed.getD j false with
        | true =>
          have h2 := inv.closed j oj hoj hl e he hb
          rw [hon, getD_both hun] at h2
          cases h2
        | false =>
          have hjs : j < listed.size := by rw [inv.size]; omega
          exact ih (t - j) (by omega) j rfl (by omega) (getD_in hjs hl) t (Nat.le_refl _) hr
    · have h1 := List.all_eq_true.1 hc t (List.mem_range.2 htlt)
      simp only [Bool.or_eq_true, decide_eq_true_eq] at h1
      rcases h1 with h1 | h1
      · omega
      · obtain ⟨j, hj, hj2⟩ := List.any_eq_true.1 h1
        simp only [Bool.and_eq_true, decide_eq_true_eq] at hj2
        have hjt := List.mem_range.1 hj
        obtain ⟨o', ho', e, he, hb, hon⟩ := Region.waitsFor_spec hj2.2
        have : o' = ot := Option.some.inj (ho'.symm.trans hot)
        subst this
        have h2 := hall e he hb
        rw [hon, getD_both (inv.tail j hj2.1 (by omega))] at h2
        cases h2
def D6 (ops : Array Oper) : Nat → Nat → Array Bool → Bool
  | 0, _, _ => true
  | f + 1, k, listed => (Region.ready .any ops listed).contains k && Region.free .any ops listed k && D6 ops f (k + 1) (listed.setIfInBounds k true)
def LW : Nat → Nat → Array Bool → Array Bool
  | 0, _, listed => listed
  | f + 1, k, listed => LW f (k + 1) (listed.setIfInBounds k true)
theorem zo {n : Nat} {Lq : List PV → List URow → Prop} (hl : r < base ∨ base + 16384 ≤ r) (hch : qp Q ops) (hsz : ops.size < 1000) (hfr : ∀ id, base ≤ id → id < base + 16384 → m id = .free) (hmh : mh = upd m r .free) (hn3 : n < 1000)
    (hw : ∀ listed, HeadInv .any ops n listed → ∀ i, i < n → listed.getD i true = false → ∀ t, n ≤ t → t ∉ Region.ready .any ops listed) :
    ∀ (l : List Oper) (k : Nat) (listed : Array Bool) (ts : List PV) (U : List URow), (∀ j, j < l.length → l[j]? = ops[k + j]?) → k + l.length = n → HeadInv .any ops n listed → (∀ j, j < k → listed.getD j true = true) →
    D6 ops l.length k listed = true → (∀ u ∈ U, ∃ k', k' < k ∧ ownM base Q r k' u.1) → iw P base Q r ops m mh k l ts U Lq →
    BK P base Q r ops n (fun listed' s' => listed' = LW l.length k listed ∧ HeadInv .any ops n listed' ∧ (∀ j, j < n → listed'.getD j true = true) ∧ ∃ ts' U', s' = ⟨ts', addU U' m⟩ ∧ (∀ u ∈ U', ∃ k', k' < n ∧ ownM base Q r k' u.1) ∧ Lq ts' U') l.length listed ⟨ts, addU U m⟩
  | [], k, listed, ts, U, _, hk, inv, hall, _, hU, h => by
    have : k = n := by simpa using hk
    subst this
    exact ⟨rfl, inv, hall, ts, U, rfl, hU, h⟩
  | o :: l, k, listed, ts, U, hll, hk, inv, hall, hB, hU, h => by
    have h0 : ops[k]? = some o := by simpa using (hll 0 (by simp)).symm
    simp only [List.length_cons, D6, Bool.and_eq_true] at hB
    obtain ⟨⟨hr, hf⟩, hB'⟩ := hB
    have hkn : k < n := by simp only [List.length_cons] at hk; omega
    have hr' : k ∈ Region.ready .any ops listed := by simpa using hr
    have hks : k < listed.size := by rw [inv.size]; exact (Array.getElem?_eq_some_iff.1 h0).1
    obtain ⟨x, ups, hy, hK⟩ := BL hl hfr hmh (by omega) hU h
    have hkeys := hy.keys
    have hrec := zo hl hch hsz hfr hmh hn3 hw l (k + 1) (listed.setIfInBounds k true) (putL ts o.dst x) (ups ++ U) (fun j hj => by have := hll (j + 1) (by simp; omega); simpa [Nat.add_assoc, Nat.add_comm 1 j] using this) (by simp only [List.length_cons] at hk; omega) (inv.set hr' hkn) (fun j hj => by
      by_cases e : k = j
      · subst e; simp [hks]
      · rw [getD_set_ne true e]; exact hall j (by omega)) hB' (fun u hu => by
      rcases List.mem_append.1 hu with hu | hu
      · exact ⟨k, by omega, hkeys u hu⟩
      · obtain ⟨q, h1, h2⟩ := hU u hu
        exact ⟨q, by omega, h2⟩) hK
    rw [bF] at hrec
    exact xQ hch hl h0 hn3 hw hkn (fun listed' s' hL j hj => by
      rcases Nat.lt_or_ge j n with hjn | hjn
      · have h1 := (mem_ready.1 hj).1
        rw [hL.2.2.1 j hjn] at h1
        cases h1
      · exact hjn) l.length listed ⟨ts, addU U m⟩ inv (Region.free_spec h0 hf) hr' hy hrec
def D7 (ops : Array Oper) (n1 : Nat) : Bool :=
  decide (n1 < ops.size) && (Region.sinkB .any ops n1 && (Jg ops n1 && (D6 ops n1 0 (Array.replicate ops.size false) && Region.lexHead .any ops 0 (ops.size - n1) n1 (LW n1 0 (Array.replicate ops.size false)))))
theorem Fh {U U' R0 : List URow} {t : TypeId} {xs : List PV} (hR : RelM base Q r R0 U U') (h0 : addU R0 m r = .row t xs) (h1 : ∀ k, k ≠ r → addU R0 m k = m k) : addU U' m = addU U (upd m r (.row t xs)) := by
  rw [hR.2.2]
  congr 1
  funext k
  by_cases hk : k = r
  · rw [hk, h0, upd_same]
  · rw [h1 k hk, upd_ne _ _ hk]
theorem QL {x : Slot} {t : TypeId} {xs : List PV} {Z : TypeId → List PV → Prop} (hrow2 : x = .row t xs) (h2 : Z t xs) : ∃ t2 xs2, x = .row t2 xs2 ∧ Z t2 xs2 := ⟨t, xs, hrow2, h2⟩
theorem W.drawMS {R : Nat → Prop} {Z : St → Exit → Prop} {id : Nat} {l : List Oper} (r : Nat) {t : TypeId} {xs : List PV} (qs : List Nat) (n1 q2 r2 : Nat) (hf : P.follows .mixedOrders = true) (hs : l.length < 1000) (hfr : ∀ k, 16384 * (id + 1) ≤ k → k < 16384 * (id + 1) + 16384 → st.mem k = .free)
    (hr : r < 16384 * (id + 1) ∨ 16384 * (id + 1) + 16384 ≤ r) (hr2 : r2 < 16384 * (id + 1) ∨ 16384 * (id + 1) + 16384 ≤ r2) (hq2 : n1 ≤ q2 ∧ q2 < 1000) (hrow : st.mem r = .row t xs) (hch : chainB l (posM 0 (cutM 0 qs (l.take n1)).1) = true) (hB : D7 l.toArray n1 = true) (hp2 : posM n1 (cutM n1 [q2] (l.drop n1)).1 = [q2])
    (h : iH P (16384 * (id + 1)) l.toArray st.mem r (fun ts U t xs => ∃ t2 xs2, upd st.mem r (.row t xs) r2 = .row t2 xs2 ∧ iH P (16384 * (id + 1)) l.toArray (upd st.mem r (.row t xs)) r2 (fun ts U t2 xs2 => Z ⟨ts, addU U (upd (upd st.mem r (.row t xs)) r2 (.row t2 xs2))⟩ .normal) n1 (cutM n1 [q2] (l.drop n1)).1 (cutM n1 [q2] (l.drop n1)).2 ts U t2 xs2) 0 (cutM 0 qs (l.take n1)).1 (cutM 0 qs (l.take n1)).2 st.tmps [] t xs) : W P R (.region id l.toArray true) st Z := by
  simp only [D7, Bool.and_eq_true, decide_eq_true_eq] at hB
  obtain ⟨hlt, hsk, hc2, hlex1, hlex2⟩ := hB
  have hsize : l.toArray.size = l.length := by simp
  rw [hsize] at hlt hlex1 hlex2
  have htl : (l.take n1).length = n1 := by rw [List.length_take]; omega
  have hdl : (l.drop n1).length = l.length - n1 := List.length_drop ..
  have hw : ∀ listed, HeadInv .any l.toArray n1 listed → ∀ i, i < n1 → listed.getD i true = false → ∀ t, n1 ≤ t → t ∉ Region.ready .any l.toArray listed := fun listed inv i hi hun => Fg hsk hc2 (by rw [hsize]; exact hlt) inv _ i rfl hi hun
  have inv0 : HeadInv .any l.toArray n1 (Array.replicate l.length false) :=
    ⟨by simp, fun j oj _ hl => (by rw [getD_replicate_false] at hl; cases hl), fun t _ ht => getD_in (by simpa using ht) (getD_replicate_false _ _)⟩
  have hc : qp (fun k => (posM 0 (cutM 0 qs (l.take n1)).1).contains k) l.toArray := fun a b ob ha hb hab hob => by
    have := (qw _ hch).1 a (by simpa using ha) b (by simpa using hb) hab ob (by simpa using hob)
    obtain ⟨c, c1, c2, c3, c4⟩ := this
    exact ⟨c, c1, c2, by simpa using c3, c4⟩
  have hjoin := qR qs 0 (l.take n1)
  have H := zo (P := P) (Q := fun k => (posM 0 (cutM 0 qs (l.take n1)).1).contains k) (r := r) (m := st.mem) (mh := upd st.mem r .free) (n := n1)
    (Lq := fun ts U' => ∃ U R0 t xs, RelM (16384 * (id + 1)) (fun k => (posM 0 (cutM 0 qs (l.take n1)).1).contains k) r R0 U U' ∧ addU U' st.mem = addU U (upd st.mem r (.row t xs)) ∧ ∃ t2 xs2, upd st.mem r (.row t xs) r2 = .row t2 xs2 ∧ iH P (16384 * (id + 1)) l.toArray (upd st.mem r (.row t xs)) r2 (fun ts U t2 xs2 => Z ⟨ts, addU U (upd (upd st.mem r (.row t xs)) r2 (.row t2 xs2))⟩ .normal) n1 (cutM n1 [q2] (l.drop n1)).1 (cutM n1 [q2] (l.drop n1)).2 ts U t2 xs2)
    hr hc (by rw [hsize]; exact hs) hfr rfl (by omega) hw (l.take n1) 0 (Array.replicate l.length false) st.tmps [] (fun j hj => by rw [htl] at hj; simp [hj]) (by rw [Nat.zero_add, htl]) inv0 (fun j hj => absurd hj (Nat.not_lt_zero _)) (by rw [htl]; exact hlex1) (by simp) (by
      have h9 : (ng (cutM 0 qs (l.take n1)).1 (cutM 0 qs (l.take n1)).2).length ≤ 1000 := by rw [hjoin, htl]; omega
      have := qQ (Q := fun k => (posM 0 (cutM 0 qs (l.take n1)).1).contains k) (K' := fun ts U' => ∃ U R0 t xs, RelM (16384 * (id + 1)) (fun k => (posM 0 (cutM 0 qs (l.take n1)).1).contains k) r R0 U U' ∧ addU U' st.mem = addU U (upd st.mem r (.row t xs)) ∧ ∃ t2 xs2, upd st.mem r (.row t xs) r2 = .row t2 xs2 ∧ iH P (16384 * (id + 1)) l.toArray (upd st.mem r (.row t xs)) r2 (fun ts U t2 xs2 => Z ⟨ts, addU U (upd (upd st.mem r (.row t xs)) r2 (.row t2 xs2))⟩ .normal) n1 (cutM n1 [q2] (l.drop n1)).1 (cutM n1 [q2] (l.drop n1)).2 ts U t2 xs2)
        hr (cutM 0 qs (l.take n1)).1 (cutM 0 qs (l.take n1)).2 0 st.tmps [] [] [] t xs (by omega) (fun k _ _ => by simp) ⟨by simp, by simp, fun m => rfl⟩ hrow (fun k _ => rfl) (fun ts U U' R0 t xs hR h0 h1 hK => ⟨U, R0, t, xs, hR, Fh hR h0 h1, hK⟩) h
      rw [hjoin] at this
      exact this)
  refine ES (base := 16384 * (id + 1)) hf ?_
  rw [hsize]
  have := kW (P := P) (K := fun s => Z s .normal) (g := l.length - n1) (fun listed s hL => ?_) _ _ _ H
  · rw [htl, show n1 + (l.length - n1) = l.length by omega] at this
    exact this
  · obtain ⟨hls, hinv, hall, ts', U', rfl, hU', U, R0, t', xs', hR, hadd, t2, xs2, hrow2, hch2⟩ := hL
    rw [hadd]
    have hU : ∀ u ∈ U, ∃ k', k' < n1 ∧ 16384 * (id + 1) + 16 * k' ≤ u.1 ∧ u.1 < 16384 * (id + 1) + 16 * k' + 16 := fun u hu => by
      obtain ⟨a, b, c⟩ := hR.1 u hu
      obtain ⟨k', hk', ho⟩ := hU' u a
      unfold ownM at ho
      split at ho
      · exact absurd ho b
      · exact ⟨k', hk', ho⟩
    have hfr1 : ∀ k, 16384 * (id + 1) ≤ k → k < 16384 * (id + 1) + 16384 → upd st.mem r (.row t' xs') k = .free := fun k h1 h2 => by rw [upd_ne _ _ (by omega)]; exact hfr k h1 h2
    have hinv2 : HeadInv .any l.toArray l.length listed := ⟨hinv.size, hinv.closed, fun t h1 h2 => by rw [hsize] at h2; omega⟩
    have hjoin2 := qR [q2] n1 (l.drop n1)
    have H2 := xk (P := P) (Q := fun k => k == q2) (r := r2) (m := upd st.mem r (.row t' xs')) (mh := upd (upd st.mem r (.row t' xs')) r2 .free) (n := l.length) (g := 0) (Lq := fun ts U => Z ⟨ts, addU U (upd st.mem r (.row t' xs'))⟩ .normal)
      hr2 (fun a b ob ha hb hab _ => by simp only [beq_iff_eq] at ha hb; omega) (by rw [hsize]; exact hs) hfr1 rfl hs (fun listed inv i hi hun t ht hr => by
        obtain ⟨_, ot, hot, _⟩ := mem_ready.1 hr
        have := (Array.getElem?_eq_some_iff.1 hot).1
        rw [hsize] at this
        omega) (l.drop n1) n1 listed ts' U (fun j hj => by simp [List.getElem?_drop]) (by rw [hdl]; omega) hinv2 (by rw [hdl, hls, htl]; exact hlex2) (fun u hu => by
        obtain ⟨k', a, b⟩ := hU u hu
        refine ⟨k', a, ?_⟩
        unfold ownM
        rw [if_neg (by simp only [beq_iff_eq]; omega)]
        exact b) (by
        have h9 : (ng (cutM n1 [q2] (l.drop n1)).1 (cutM n1 [q2] (l.drop n1)).2).length = l.length - n1 := by rw [hjoin2, hdl]
        have := qQ (m := upd st.mem r (.row t' xs')) (Q := fun k => k == q2) (K' := fun ts U => Z ⟨ts, addU U (upd st.mem r (.row t' xs'))⟩ .normal) hr2 (cutM n1 [q2] (l.drop n1)).1 (cutM n1 [q2] (l.drop n1)).2 n1 ts' U U [] t2 xs2 (by omega) (fun k _ _ => by rw [hp2]; simp) ⟨fun v hv => by
          obtain ⟨k', a, b⟩ := hU v hv
          refine ⟨hv, by omega, fun k hk => ?_⟩
          simp only [beq_iff_eq] at hk
          omega, by simp, fun m => rfl⟩ hrow2 (fun k _ => rfl) (fun ts U U' R0 t xs hR h0 h1 hK => by
          rw [Fh hR h0 h1]
          exact hK) hch2
        rw [hjoin2] at this
        exact this)
    have H3 := kW (P := P) (K := fun s => Z s .normal) (g := 0) (fun listed s hL => ?_) _ _ _ H2
    · rw [hdl] at H3
      exact H3
    · obtain ⟨h1, ts3, U3, rfl, h2⟩ := hL
      exact ⟨by simpa [Region.seqB] using h1, h2⟩
end Go.Pv
