/- The engine of this session, part 22: regions that draw their order and write to a row that they made. -/
import Derived.Test.YtneapbfomhalpaaGreatDoorQM
set_option linter.unusedVariables false
set_option linter.unusedSimpArgs false
namespace Go.Pv
variable {P : Program} {mem m m2 mh : Mem} {st s : St} {o oi oj : Oper} {ops : Array Oper} {base i j q r : Nat} {ts : List PV}
theorem aheadG_of2 {K K' : List PV → List URow → Prop} {R0 : List URow} (hK : ∀ ts U U', RelQ base q r R0 U U' → K ts U → K' ts U') (hq : q < 1000) : ∀ (l : List Oper) (i : Nat) (ts : List PV) (U U' : List URow), (∀ j, i ≤ j → j < i + l.length → ∀ v, base + 16 * j ≤ v → v < base + 16 * j + 16 → v ≠ r) → i + l.length ≤ 1000 → (i + l.length ≤ q ∨ q < i) → RelQ base q r R0 U U' →
    aheadU P base ops mh i l ts U K → aheadG P base q r ops m mh i l ts U' K'
  | [], i, ts, U, U', _, _, _, hR, h => hK _ _ _ hR h
  | o :: l, i, ts, U, U', hl, hn, hi, hR, h => by
    unfold aheadU at h
    unfold aheadG
    simp only [List.length_cons] at hl hn hi
    have hl' : ∀ j, i + 1 ≤ j → j < i + 1 + l.length → ∀ v, base + 16 * j ≤ v → v < base + 16 * j + 16 → v ≠ r := fun j h1 h2 => hl j (by omega) (by omega)
    split at h
    · exact h.elim
    · rename_i t hg
      rw [hg]
      refine ⟨fun e => ?_, fun e => aheadG_of2 hK hq l (i + 1) _ U U' hl' (by omega) (by omega) hR (h.2 e)⟩
      obtain ⟨x, ups, V, hV, hs, hrest⟩ := h.1 e
      refine ⟨x, ups, .inl ⟨by omega, V, ?_, hs⟩, aheadG_of2 hK hq l (i + 1) _ (ups ++ U) (ups ++ U') hl' (by omega) (by omega) ⟨fun v hv => ?_, hR.2.1, fun m => by rw [addU_append, addU_append, hR.2.2]⟩ hrest⟩
      · rcases hV with h0 | ⟨v, k, h0, hv, h1, h2, h3, h4⟩
        · exact .inl h0
        · obtain ⟨h5, h6, h7⟩ := hR.1 v hv
          refine .inr ⟨v, k, h0, h5, h6, fun e => h7 (e ▸ ⟨h1, h2⟩), h1, h2, h3, ?_⟩
          rw [hR.2.2, (addU_in (l := U) (m := mh) (i := v.1) ⟨v, hv, rfl⟩).2 (addU R0 mh)]
          exact h4
      · rcases List.mem_append.1 hv with hv | hv
        · have := hs.1 v hv
          exact ⟨List.mem_append_left _ hv, hl i (Nat.le_refl _) (by omega) _ this.1 this.2, by omega⟩
        · obtain ⟨h5, h6, h7⟩ := hR.1 v hv
          exact ⟨List.mem_append_right _ h5, h6, h7⟩
/-- What comes where a row is made that the next operation writes. -/
def AllocQ (P : Program) (base : Nat) (ops : Array Oper) (m : Mem) (n p r : Nat) (op oq : Oper) (l2 l3 : List Oper) (K : St → Prop) (ts : List PV) (U : List URow) : Prop :=
  gd ops op ts = some true ∧ ∃ x0 t' xs0, SureA P (base + 16 * p) op ts m x0 [(r, t', xs0)] ∧ StoreQ P base ops m n (p + 1) r t' xs0 oq l2 l3 K (putL ts op.dst x0) U
theorem AllocQ.mk {n p : Nat} {t' : TypeId} {x0 : PV} {xs0 : List PV} {op oq : Oper} {l2 l3 : List Oper} {K : St → Prop} {U : List URow} (hg : gd ops op ts = some true) (hkey : base + 16 * p ≤ r ∧ r < base + 16 * p + 16)
    (hal : ∀ m2 : Mem, m2 r = .free → ∀ K' : PV → Mem → Prop, K' x0 (upd m2 r (.row t' xs0)) → aop P (base + 16 * p) op ⟨ts, m2⟩ K') (hrest : StoreQ P base ops m n (p + 1) r t' xs0 oq l2 l3 K (putL ts op.dst x0) U) : AllocQ P base ops m n p r op oq l2 l3 K ts U :=
  ⟨hg, x0, t', xs0, ⟨fun u hu => by rw [List.mem_singleton.1 hu]; exact hkey, fun m2 _ hf K' hK' => hal m2 (hf _ (List.mem_singleton_self _)) K' hK'⟩, hrest⟩
/-- A region that draws its order, in which operation p makes a row and the next one writes it. -/
theorem W.drawA {R : Nat → Prop} {Q : St → Exit → Prop} {id n : Nat} {l l2 : List Oper} {op oq : Oper} (p r : Nat) (hf : P.follows .mixedOrders = true) (hB : drawB l.toArray n = true) (hs : l.length < 1000) (hfr : ∀ k, 16384 * (id + 1) ≤ k → k < 16384 * (id + 1) + 16384 → st.mem k = .free)
    (hr : 16384 * (id + 1) + 16 * p ≤ r ∧ r < 16384 * (id + 1) + 16 * p + 16) (hq : p + 2 ≤ n ∧ p + 2 ≤ l.length) (ht : (l.take n).drop p = op :: oq :: l2) (he : (oq.after.any fun e => Region.binds .any e && e.on == p) = true)
    (h : aheadU P (16384 * (id + 1)) l.toArray st.mem 0 (l.take p) st.tmps [] (AllocQ P (16384 * (id + 1)) l.toArray st.mem n p r op oq l2 (l.drop n) fun s => Q s .normal)) : W P R (.region id l.toArray true) st Q := by
  obtain ⟨l1, hl1⟩ : ∃ l1, l1 = l.take p := ⟨_, rfl⟩
  rw [← hl1] at h
  obtain ⟨hqn, hql⟩ := hq
  have hq : l1.length = p := by rw [hl1, List.length_take]; omega
  have hoq : l.toArray[p + 1]? = some oq := by
    have h1 : ((l.take n).drop p)[1]? = some oq := by rw [ht]; rfl
    rw [List.getElem?_drop, List.getElem?_take] at h1
    simpa [show p + 1 < n by omega] using h1
  replace ht : l.take n = l1 ++ op :: oq :: l2 := by
    rw [← ht, hl1]
    conv => lhs; rw [← List.take_append_drop p (l.take n)]
    rw [List.take_take, Nat.min_eq_left (by omega)]
  have hlen : l1.length + 2 + l2.length ≤ l.length := by
    have := congrArg List.length ht
    simp only [List.length_take, List.length_append, List.length_cons] at this
    omega
  have hedge : ¬ noEdge oq p := fun hn => by
    rw [Array.any_eq_true] at he
    obtain ⟨k, hk, he⟩ := he
    rw [Bool.and_eq_true, beq_iff_eq] at he
    exact hn _ (Array.getElem_mem hk) he.1 he.2
  have hmr : upd st.mem r .free = st.mem := by
    funext k
    unfold upd
    split
    · rename_i e; subst e; exact (hfr _ (by omega) (by omega)).symm
    · rfl
  refine W_any hf (aheadG_any (q := p + 1) (r := r) hB (by simpa using hs) (.inr ⟨p, oq, by omega, hr.1, hr.2, hoq, hedge⟩) hfr ?_)
  rw [List.toList_toArray, ht]
  refine aheadG_append l1 _ 0 _ _ (aheadG_of2 (R0 := []) (fun ts U U' hR hU => ?_) (by omega) l1 0 _ [] [] (fun j h1 h2 v h3 h4 => by omega) (by omega) (.inl (by omega)) ⟨by simp, by simp, fun m => rfl⟩ (by rw [hmr]; exact h))
  obtain ⟨hg0, x0, t', xs0, hsure0, hg, x, t, xs1, hsure, hrest⟩ := hU
  rw [Nat.zero_add, hq]
  have hU' : ∀ m, addU U' m = addU U m := fun m => hR.2.2 m
  unfold aheadG
  rw [hg0]
  refine ⟨fun _ => ⟨x0, [(r, t', xs0)], .inl ⟨by omega, [], .inl rfl, by rw [hmr]; exact hsure0⟩, ?_⟩, fun e => by cases e⟩
  unfold aheadG
  rw [hg]
  refine ⟨fun _ => ⟨x, [(r, t, xs1)], .inr ⟨rfl, t, t', xs0, xs1, rfl, by simp [addU, upd], hsure⟩, ?_⟩, fun e => by cases e⟩
  refine aheadG_of2 (R0 := [(r, t, xs1)]) (fun ts U U' hR2 hU2 => ?_) (by omega) l2 (p + 1 + 1) _ U _ (fun j h1 h2 v h3 h4 => by omega) (by omega) (.inr (by omega)) ⟨fun v hv => ⟨List.mem_append_right _ (List.mem_append_right _ (hR.1 v hv).1), (hR.1 v hv).2⟩, by simp, fun m => ?_⟩ hrest
  · have := hR2.2.2 st.mem
    rw [this]
    exact hU2
  · rw [addU_append, addU_append, hU']
    have e1 : ∀ m0 : Mem, addU [(r, t, xs1)] (addU [(r, t', xs0)] m0) = addU [(r, t, xs1)] m0 := fun m0 => by simp only [addU]; exact upd_upd ..
    rw [e1]
    exact addU_comm (fun u hu v hv e => (hR.1 v hv).2.1 (by rw [← e, List.mem_singleton.1 hu])) m
end Go.Pv
