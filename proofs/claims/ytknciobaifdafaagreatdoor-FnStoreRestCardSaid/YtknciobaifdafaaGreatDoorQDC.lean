/- The draws of the store, part 12: falls, rises, steps. -/
import Derived.Test.YtknciobaifdafaaGreatDoorQD8
set_option linter.unusedVariables false
set_option linter.unusedSimpArgs false
namespace Go.Pv
def dK (mask : Int) (i : Nat) : Bool := decide ((mask / 2 ^ (i % 60)) % 2 = 1)
def gz (cut bytes : Int) (i : Nat) : Option (ByteArray → Nat) := if (i : Int) = cut then some (fun text => (min bytes ((text.size : Int) - 1)).toNat) else none
def dk0 : Dk := ⟨[], [], 0, 0⟩
def dH (d : Dk) (mask cut bytes : Int) : Dk := if dkOk d = true ∧ 0 ≤ mask then ⟨cu (dK mask) (gz cut bytes) d.waits 0 d.cells, [], -1, -1⟩ else dk0
def limD (d : Dk) (room left : Int) : Dk := if dkOk d = true ∧ -1 ≤ room ∧ -1 ≤ left then ⟨d.cells, d.waits, room, left⟩ else dk0
def setS (s : Stor) (room left : Int) : Stor := if ag s = true ∧ -1 ≤ room ∧ -1 ≤ left then ⟨⟨s.disk.cells, s.disk.waits, room, left⟩, s.turn, s.tries, s.next, s.pages⟩ else bU
structure Step where
  kind : Int
  list : List Wt
  room : Int
  left : Int
  mask : Int
  cut : Int
  bytes : Int
  again : Bool
def kQ (x : Dk) (e : Step) : Dk := if e.again = true then dH (dn (ai (limD x (-1) e.left))).1.disk e.mask e.cut e.bytes else x
def nJ (d : Dk) (e : Step) : Stor := (dn (ai (kQ (dH d e.mask e.cut e.bytes) e))).1
def stepS (s : Stor) (e : Step) : Stor :=
  if e.kind = 1 then setS (ah (setS s e.room (-1))).1 (-1) (-1)
  else if e.kind = 2 then setS (aG (ag (setS s e.room (-1))) (setS s e.room (-1)) e.list).1 (-1) (-1)
  else if e.kind = 3 then nJ (aG (ag (setS s e.room e.left)) (setS s e.room e.left) e.list).1.disk e
  else nJ (ah (setS s e.room e.left)).1.disk e
structure StepD0 (e : Step) : Prop where
  room : -1 ≤ e.room
  left : -1 ≤ e.left
  mask : 0 ≤ e.mask
structure StepD (e : Step) : Prop extends StepD0 e where
  list : listOk e.list = true
  len : e.list.length ≤ 4
  text : ∀ i, i < e.list.length → (e.list.getD i wt0).text.data.toList ∈ txL
theorem Good.lim {s : Stor} (h : Good s) (room left : Int) : Good ⟨⟨s.disk.cells, s.disk.waits, room, left⟩, s.turn, s.tries, s.next, s.pages⟩ :=
  ⟨h.len, h.waits, h.small, h.turn, h.tries, h.next, h.heads, h.late, h.read, h.most, h.big⟩
theorem rO {s : Stor} (h : Good s) (hr : -1 ≤ s.disk.room) (hl : -1 ≤ s.disk.left) {room left : Int} (h1 : -1 ≤ room) (h2 : -1 ≤ left) : setS s room left = ⟨⟨s.disk.cells, s.disk.waits, room, left⟩, s.turn, s.tries, s.next, s.pages⟩ := if_pos ⟨gV h hr hl, h1, h2⟩
theorem KQ {c : List ByteArray} (h : ∀ k, (cellAt c k).size ≤ 1200) : (c.all fun s => decide (s.size ≤ 1200)) = true := nI.2 h
theorem pU {d : Dk} (h1 : d.cells.length = 42) (h2 : d.waits.length ≤ 100) (h3 : -1 ≤ d.room) (h4 : -1 ≤ d.left) (h5 : ∀ k, (cellAt d.cells k).size ≤ 1200) (h6 : ∀ w ∈ d.waits, 0 ≤ w.cell ∧ w.cell ≤ 41 ∧ w.text.size ≤ 1200) : dkOk d = true := by
  unfold dkOk
  rw [Bool.and_eq_true, Bool.and_eq_true]
  refine ⟨⟨decide_eq_true ⟨h1, h2, h3, h4⟩, KQ h5⟩, List.all_eq_true.2 fun w hw => ?_⟩
  obtain ⟨a, b, c⟩ := h6 w hw
  unfold wtOk
  rw [Bool.and_eq_true]
  exact ⟨decide_eq_true ⟨a, b⟩, decide_eq_true c⟩
theorem kR {n : Int} (h0 : 0 ≤ n) (h1 : n ≤ 999999) : (headB n).size ≤ 1200 := by
  have := bT n (by omega) (by omega)
  unfold headB
  simp only [ByteArray.size_append, gK, List.size_toArray, List.length_cons, List.length_nil]
  omega
theorem wE {s : Stor} (h : Good s) : 0 ≤ (headW s).cell ∧ (headW s).cell ≤ 41 ∧ (headW s).text.size ≤ 1200 := by
  have := h.turn
  unfold headW
  refine ⟨?_, ?_, kR (by omega) (by omega)⟩
  · dsimp only; rw [Int.tmod_eq_emod_of_nonneg (by omega)]; omega
  · dsimp only; rw [Int.tmod_eq_emod_of_nonneg (by omega)]; omega
theorem rP {s : Stor} {e : Dk} (h : Good s) (hr : RestDisk s e) (h3 : -1 ≤ e.room) (h4 : -1 ≤ e.left) : dkOk e = true := by
  cases hr with
  | data hd hw =>
    refine pU hd.len (by have := hw.len; omega) h3 h4 hd.small fun w hw' => ?_
    · obtain ⟨q, hq, e1, _, hs⟩ := hw.mem w hw'
      rw [e1] at hs ⊢
      exact ⟨by dsimp only; omega, by dsimp only; omega, hs⟩
  | head hf hw =>
    refine pU hf.1.len (by rw [hw]; simp) h3 h4 hf.1.small fun w hw' => ?_
    · rw [hw] at hw'
      rw [List.mem_singleton.1 hw']
      exact wE h
  | done c1 hf hc hw =>
    refine pU (by rw [hc, List.length_set]; exact hf.1.len) (by rw [hw]; simp) h3 h4 (fun k => ?_) (fun w hw' => by rw [hw] at hw'; cases hw')
    rw [hc, at_set]
    split
    · exact (wE h).2.2
    · exact hf.1.small k
theorem yf {s : Stor} {l : List Wt} {e : Dk} (h : Good s) (hn : s.next + l.length ≤ 20) (hc : CommitDisk s l e) (h3 : -1 ≤ e.room) (h4 : -1 ≤ e.left) : dkOk e = true := by
  have hn0 := h.next
  cases hc with
  | wait j hj hc hw hsm =>
    refine pU (by rw [hc]; exact h.len) (by rw [hw, OZ]; omega) h3 h4 (by rw [hc]; exact h.small) fun w hw' => ?_
    · rw [hw] at hw'
      have hs := hsm w hw'
      obtain ⟨q, _, hq, rfl⟩ := yN hw'
      exact ⟨by unfold frW; dsimp only; omega, by unfold frW; dsimp only; omega, hs⟩
  | put j hj hc hw hsm => exact pU (by rw [hc, aQ]; exact h.len) (by rw [hw]; simp) h3 h4 (by rw [hc]; exact rM h.small hsm) fun w hw' => by rw [hw] at hw'; cases hw'
theorem iZ {d : Dk} (h : dkOk d = true) {mask cut bytes : Int} (hm : 0 ≤ mask) : dH d mask cut bytes = ⟨cu (dK mask) (gz cut bytes) d.waits 0 d.cells, [], -1, -1⟩ := if_pos ⟨h, hm⟩
theorem xC {s : Stor} {T : Nat} {c1 : List ByteArray} {rm lf : Int} (h : Good s) (hT : s.turn = T) (hT29 : T + 1 ≤ 29) (hh : HeadOk T s.disk.cells) (hf : Full s c1) : Good ⟨⟨c1.set (headW s).cell.toNat (headW s).text, [], rm, lf⟩, s.turn + 1, 0, 0, s.pages⟩ ∧ HeadOk (T + 1) (c1.set (headW s).cell.toNat (headW s).text) ∧ ∀ k, 22 ≤ k → cellAt (c1.set (headW s).cell.toNat (headW s).text) k = cellAt s.disk.cells k := by
  obtain ⟨hw1, hw2⟩ := pO hT
  have ht := h.turn
  have hsm := (wE h).2.2
  rw [hw2] at hsm
  rw [hw1, hw2]
  have hother : cellAt (c1.set ((T + 1) % 2) (headB ((T + 1 : Nat) : Int))) ((T + 1) % 2) = headB ((T + 1 : Nat) : Int) := by rw [at_set, if_pos ⟨rfl, by rw [hf.1.len]; omega⟩]
  have hown : cellAt (c1.set ((T + 1) % 2) (headB ((T + 1 : Nat) : Int))) (T % 2) = headB T := by
    rw [at_set, if_neg (by omega), jF hf.1 (by omega)]; exact hh.own
  have hlog : ∀ k, 22 ≤ k → cellAt (c1.set ((T + 1) % 2) (headB ((T + 1 : Nat) : Int))) k = cellAt s.disk.cells k := fun k hk => by
    rw [at_set, if_neg (by omega)]; exact hf.1.out k (.inr hk)
  have hmx := xB (by omega) (by omega) hown
  rw [hother, jC (n := ((T + 1 : Nat) : Int)) (by omega) (zX (T + 1))] at hmx
  refine ⟨rF h (by omega) (by rw [List.length_set]; exact hf.1.len) (fun m hm => hlog _ (by omega)) (fun q hq => by rw [at_set, if_neg (by omega)]; exact hf.2 q hq) (fun k => ?_) (by rw [hmx]; omega), ⟨hother, ?_⟩, hlog⟩
  · rw [at_set]
    split
    · exact hsm
    · exact hf.1.small k
  · unfold bl
    rw [show (T + 1 + 1) % 2 = T % 2 by omega, hown]
    exact (HLay.whole (n := T) (by omega) (Nat.le_refl _)).up (by omega)
theorem qC {T : Nat} {c' : List ByteArray} {s1 : Stor} (h : Fallen T c' s1) (room left : Int) (hr : -1 ≤ room) (hl : -1 ≤ left) : ∃ s2, ai ⟨c', [], room, left⟩ = (s2, true) ∧ Good s2 ∧ s2.disk = ⟨c', [], room, left⟩ ∧ s2.turn = T ∧ HeadOk T s2.disk.cells := by
  obtain ⟨g, e1, e2, e3⟩ := h
  obtain ⟨A, hA⟩ := g.read
  have hc : s1.disk.cells = c' := by rw [e1]
  have hlen := g.len
  have hsm := g.small
  have hh := g.heads
  have hnl := g.late
  rw [hc] at hA hlen hsm hh hnl
  have er := zS (d := ⟨c', [], room, left⟩) hh g.turn.1 hnl g.next hA g.big
  have hok : dkOk ⟨c', [], room, left⟩ = true := pU hlen (by simp) hr hl hsm (by simp)
  have hm := g.most
  rw [hc] at hm
  have htb := uu (gOf c' s1.turn) (o5 c' s1.turn) 20
  refine ⟨⟨⟨c', [], room, left⟩, s1.turn, trL (gOf c' s1.turn) 20, s1.next, s1.pages⟩, ?_, ⟨hlen, rfl, hsm, g.turn, htb, g.next, hh, hnl, ⟨A, hA⟩, Ef (Int.le_refl _), g.big⟩, rfl, e2, e3⟩
  unfold ai
  rw [if_pos ⟨hok, rfl⟩]
  exact er
theorem CW {T : Nat} {c' : List ByteArray} {s1 : Stor} (h : Fallen T c' s1) (hT : T + 1 ≤ 29) : ∃ s3, (dn (ai ⟨c', [], -1, -1⟩)).1 = s3 ∧ Good s3 ∧ s3.disk.room = -1 ∧ s3.disk.left = -1 ∧ s3.turn = T + 1 ∧ s3.next = 0 ∧ s3.tries = 0 ∧ HeadOk (T + 1) s3.disk.cells ∧ ∀ k, 22 ≤ k → cellAt s3.disk.cells k = cellAt c' k := by
  obtain ⟨s2, e, g, e1, e2, e3⟩ := qC h (-1) (-1) (by omega) (by omega)
  have ht := g.turn
  obtain ⟨_, _, _, hcs, hleft, hz⟩ := dQ g (by omega) (by rw [e1]; exact Int.le_refl (-1)) (by rw [e1]; exact Int.le_refl (-1))
  obtain ⟨hz1, hz2⟩ := hz (by rw [e1]; exact (by decide : (-1 : Int) < 0)) (by rw [e1]; exact (by decide : (-1 : Int) < 0))
  have hl2 := hleft (by rw [e1]; exact (by decide : (-1 : Int) < 0))
  rw [e1] at hz2 hl2
  dsimp only at hz2 hl2
  rcases hcs with ⟨_, ⟨c1, hf, hc, hw⟩, hs⟩ | ⟨h2, _⟩ | ⟨h2, _⟩
  · have hd := xC (rm := -1) (lf := -1) g e2 hT e3 hf
    have e4 : (ah s2).1 = ⟨⟨c1.set (headW s2).cell.toNat (headW s2).text, [], -1, -1⟩, s2.turn + 1, 0, 0, s2.pages⟩ := by
      rw [hs]
      congr 1
      generalize (ah s2).1.disk = D at hc hw hz2 hl2
      obtain ⟨a, b, c, d⟩ := D
      dsimp only at hc hw hz2 hl2
      subst hc hw hz2 hl2
      rfl
    refine ⟨_, ?_, hd.1, rfl, rfl, by dsimp only; omega, rfl, rfl, hd.2.1, fun k hk => ?_⟩
    · rw [e]
      unfold dn
      rw [if_pos rfl]
      unfold nD
      dsimp only
      rw [if_pos hz1]
      exact e4
    · have := hd.2.2 k hk
      rw [e1] at this
      exact this
  · omega
  · omega
theorem Aa {T : Nat} {c' : List ByteArray} {s1 : Stor} (h : Fallen T c' s1) (hT : T + 1 ≤ 29) {left mask cut bytes : Int} (hl : -1 ≤ left) (hm : 0 ≤ mask) : ∃ T' c'' s1', dH (dn (ai (limD ⟨c', [], -1, -1⟩ (-1) left))).1.disk mask cut bytes = ⟨c'', [], -1, -1⟩ ∧ Fallen T' c'' s1' ∧ T ≤ T' ∧ T' ≤ T + 1 ∧ ∀ k, 22 ≤ k → cellAt c'' k = cellAt c' k := by
  have hok : dkOk ⟨c', [], -1, -1⟩ = true := by
    have h1 := h.good.len
    have h2 := h.good.small
    rw [h.disk] at h1 h2
    exact pU h1 (by simp) (Int.le_refl (-1)) (Int.le_refl (-1)) h2 (by simp)
  have el : limD ⟨c', [], -1, -1⟩ (-1) left = ⟨c', [], -1, left⟩ := if_pos ⟨hok, by omega, hl⟩
  obtain ⟨s2, e, g, e1, e2, e3⟩ := qC h (-1) left (by omega) hl
  have ht := g.turn
  obtain ⟨hr, hr1, hr2, hcs, hleft, hz⟩ := dQ g (by omega) (by rw [e1]; exact Int.le_refl (-1)) (by rw [e1]; exact hl)
  have ed : (dn (ai ⟨c', [], -1, left⟩)).1.disk = (ah s2).1.disk := by
    rw [e]
    unfold dn
    rw [if_pos rfl]
    unfold nD
    dsimp only
    split <;> rfl
  rw [el, ed, iZ (rP g hr hr1 hr2) hm]
  obtain ⟨s', ha⟩ := uI g e2 hT e3 hr (dK mask) (gz cut bytes)
  have hT' : s'.turn = (s'.turn.toNat : Int) ∧ T ≤ s'.turn.toNat ∧ s'.turn.toNat ≤ T + 1 := by
    rcases ha.turn with ⟨e, _⟩ | ⟨e, _⟩ <;> omega
  refine ⟨s'.turn.toNat, _, s', rfl, ⟨ha.good, ha.disk, hT'.1, ha.heads⟩, hT'.2.1, hT'.2.2, fun k hk => ?_⟩
  have := ha.log k hk
  rw [e1] at this
  exact this
theorem O0 {T : Nat} {c' : List ByteArray} {s1 : Stor} {e : Step} (h : Fallen T c' s1) (hT : T + 2 ≤ 29) (he : StepD0 e) : ∃ T3 s3, (dn (ai (kQ ⟨c', [], -1, -1⟩ e))).1 = s3 ∧ Good s3 ∧ s3.disk.room = -1 ∧ s3.disk.left = -1 ∧ s3.turn = (T3 : Nat) ∧ T ≤ T3 ∧ T3 ≤ T + 2 ∧ s3.next = 0 ∧ s3.tries = 0 ∧ HeadOk T3 s3.disk.cells ∧ ∀ k, 22 ≤ k → cellAt s3.disk.cells k = cellAt c' k := by
  unfold kQ
  split
  · obtain ⟨T', c'', s1', e1, hf, h1, h2, hlog⟩ := Aa (cut := e.cut) (bytes := e.bytes) h (by omega) he.left he.mask
    rw [e1]
    obtain ⟨s3, e3, g, a, b, c, d, f, hh, hl⟩ := CW hf (by omega)
    exact ⟨T' + 1, s3, e3, g, a, b, by rw [c]; omega, by omega, by omega, d, f, hh, fun k hk => by rw [hl k hk, hlog k hk]⟩
  · obtain ⟨s3, e3, g, a, b, c, d, f, hh, hl⟩ := CW h (by omega)
    exact ⟨T + 1, s3, e3, g, a, b, by rw [c]; omega, by omega, by omega, d, f, hh, hl⟩
def UpOk (d : Dk) : Prop := ∃ s2, ai d = (s2, true) ∧ Good s2 ∧ s2.disk.room = -1 ∧ s2.disk.left = -1 ∧ s2.turn < 99999 ∧ (ah s2).2 = 0
theorem CX {T : Nat} {c' : List ByteArray} {s1 : Stor} (h : Fallen T c' s1) (hT : T + 1 ≤ 29) : UpOk ⟨c', [], -1, -1⟩ := by
  obtain ⟨s2, e, g, e1, e2, e3⟩ := qC h (-1) (-1) (by omega) (by omega)
  have ht := g.turn
  obtain ⟨_, _, _, hcs, hleft, hz⟩ := dQ g (by omega) (by rw [e1]; exact Int.le_refl (-1)) (by rw [e1]; exact Int.le_refl (-1))
  exact ⟨s2, e, g, by rw [e1], by rw [e1], by omega, (hz (by rw [e1]; exact (by decide : (-1 : Int) < 0)) (by rw [e1]; exact (by decide : (-1 : Int) < 0))).1⟩
theorem wF {T : Nat} {c' : List ByteArray} {s1 : Stor} {e : Step} (h : Fallen T c' s1) (hT : T + 2 ≤ 29) (he : StepD0 e) : UpOk (kQ ⟨c', [], -1, -1⟩ e) := by
  unfold kQ
  split
  · obtain ⟨T', c'', s1', e1, hf, h1, h2, hlog⟩ := Aa (cut := e.cut) (bytes := e.bytes) h (by omega) he.left he.mask
    rw [e1]
    exact CX hf (by omega)
  · exact CX h (by omega)
end Go.Pv
set_option linter.unusedVariables false
set_option linter.unusedSimpArgs false
namespace Go.Pv
structure PlayI (k c T : Nat) (s : Stor) : Prop where
  good : Good s
  turn : s.turn = T
  room : s.disk.room = -1
  left : s.disk.left = -1
  heads : HeadOk T s.disk.cells
  log : kC (min T 19) c s.disk.cells
  next : s.next ≤ 4 * c
  tries : s.tries ≤ c
  ck : c ≤ k
  bound : T + min c 5 ≤ 3 * k + 1
structure PlayE (s : Stor) : Prop where
  good : Good s
  room : s.disk.room = -1
  left : s.disk.left = -1
  turn : s.turn ≤ 29
  top : ∃ T : Nat, s.turn = T ∧ T ≤ 25 ∧ HeadOk T s.disk.cells
theorem Nb {t t' c : Nat} {cs : List ByteArray} (h : kC t c cs) (ht : t ≤ t') : kC t' c cs := fun p hp => ⟨(h p hp).1.up ht, (h p hp).2⟩
theorem Ju {t c : Nat} {cs : List ByteArray} (h : kC t c cs) : kC t (c + 1) cs := fun p hp => ⟨(h p hp).1, (h p hp).2.up⟩
theorem PlayI.e {k c T : Nat} {s : Stor} (h : PlayI k c T s) (hk : k ≤ 8) : PlayE s := ⟨h.good, h.room, h.left, by have := h.turn; have := h.bound; omega, T, h.turn, by have := h.bound; omega, h.heads⟩
def Next (k : Nat) (s : Stor) : Prop := (k ≤ 6 → ∃ c T, PlayI (k + 1) c T s) ∧ PlayE s
theorem yO {k c T : Nat} {s : Stor} (hk : k ≤ 7) (h : PlayI (k + 1) c T s) : Next k s := ⟨fun _ => ⟨c, T, h⟩, h.e (by omega)⟩
theorem Ac {s : Stor} {T : Nat} (h : Good s) (hT : s.turn = T) (hT29 : T + 1 ≤ 29) (hh : HeadOk T s.disk.cells) (hr : -1 ≤ s.disk.room) (hl : s.disk.left = -1) :
    Good (ah s).1 ∧ (ah s).1.disk.left = -1 ∧ -1 ≤ (ah s).1.disk.room ∧ (∀ k, 22 ≤ k → cellAt (ah s).1.disk.cells k = cellAt s.disk.cells k) ∧
    ((ah s).2 = 0 ∧ (ah s).1.turn = (T + 1 : Nat) ∧ (ah s).1.next = 0 ∧ (ah s).1.tries = 0 ∧ HeadOk (T + 1) (ah s).1.disk.cells ∨
     (ah s).2 = 2 ∧ (ah s).1.turn = T ∧ (ah s).1.next = s.next ∧ (ah s).1.tries = s.tries ∧ HeadOk T (ah s).1.disk.cells) := by
  have ht := h.turn
  obtain ⟨_, hr1, hr2, hcs, hleft, _⟩ := dQ h (by omega) hr (by omega)
  have hl2 := hleft (by omega)
  generalize ah s = R at hr1 hr2 hcs hl2 ⊢
  obtain ⟨⟨⟨rc, rw', rr, rl⟩, rt, rtr, rn, rp⟩, rb⟩ := R
  dsimp only at hr1 hr2 hcs hl2 ⊢
  rcases hcs with ⟨h0, ⟨c1, hf, hc, hw⟩, hs⟩ | ⟨h2, hd, hw, hs, _⟩ | ⟨_, _, h3⟩
  · simp only [Stor.mk.injEq, true_and] at hs
    obtain ⟨e1, e2, e3, e4⟩ := hs
    subst hc hw e1 e2 e3 e4
    have hd := xC (rm := rr) (lf := rl) h hT hT29 hh hf
    exact ⟨hd.1, by omega, hr1, hd.2.2, .inl ⟨h0, by omega, rfl, rfl, hd.2.1⟩⟩
  · simp only [Stor.mk.injEq, true_and] at hs
    obtain ⟨e1, e2, e3, e4⟩ := hs
    subst hw e1 e2 e3 e4
    refine ⟨rE h hd, by omega, hr1, fun k hk => hd.out k (.inr hk), .inr ⟨h2, hT, rfl, rfl, ⟨by rw [hd.out _ (.inl (by omega))]; exact hh.own, by unfold bl; rw [hd.out _ (.inl (by omega))]; exact hh.other⟩⟩⟩
  · omega
theorem PlayI.set {k c T : Nat} {s : Stor} (h : PlayI k c T s) {room left : Int} (h1 : -1 ≤ room) (h2 : -1 ≤ left) : setS s room left = ⟨⟨s.disk.cells, s.disk.waits, room, left⟩, s.turn, s.tries, s.next, s.pages⟩ :=
  rO h.good (by rw [h.room]; exact Int.le_refl _) (by rw [h.left]; exact Int.le_refl _) h1 h2
theorem wG {s : Stor} (h : Good s) (hr : -1 ≤ s.disk.room) (hl : -1 ≤ s.disk.left) : setS s (-1) (-1) = ⟨⟨s.disk.cells, s.disk.waits, -1, -1⟩, s.turn, s.tries, s.next, s.pages⟩ := rO h hr hl (Int.le_refl _) (Int.le_refl _)
theorem KR {k c T : Nat} {s : Stor} {e : Step} (h : PlayI k c T s) (hk : k ≤ 7) (he : StepD0 e) : Next k (setS (ah (setS s e.room (-1))).1 (-1) (-1)) := by
  have hb := h.bound
  have hck := h.ck
  have hnx := h.next
  have htr := h.tries
  rw [h.set he.room (Int.le_refl _)]
  obtain ⟨g, hl, hr, hlog, hcs⟩ := Ac (T := T) (h.good.lim e.room (-1)) h.turn (by omega) h.heads he.room rfl
  dsimp only at hlog hcs
  generalize ah ⟨⟨s.disk.cells, s.disk.waits, e.room, -1⟩, s.turn, s.tries, s.next, s.pages⟩ = R at g hl hr hlog hcs ⊢
  obtain ⟨x, rb⟩ := R
  dsimp only at g hl hr hlog hcs ⊢
  rw [wG g hr (by omega)]
  have hg2 := g.lim (-1) (-1)
  rcases hcs with ⟨_, e1, e2, e3, hh⟩ | ⟨_, e1, e2, e3, hh⟩
  · exact yO (c := c) (T := T + 1) hk ⟨hg2, e1, rfl, rfl, hh, mM (Nb h.log (by omega)) hlog, by dsimp only; omega, by dsimp only; omega, by omega, by omega⟩
  · exact yO (c := c) (T := T) hk ⟨hg2, e1, rfl, rfl, hh, mM h.log hlog, by dsimp only; omega, by dsimp only; omega, by omega, by omega⟩
theorem wH {s : Stor} {l : List Wt} {T t0 c : Nat} (h : Good s) (hT : s.turn = T) (hh : HeadOk T s.disk.cells) (hl : listOk l = true) (hn : s.next + l.length ≤ 20) (h9 : s.tries + 1 ≤ 9) (htx : ∀ i, i < l.length → (l.getD i wt0).text.data.toList ∈ txL) (hlog : kC t0 c s.disk.cells) (ht0 : t0 ≤ T) (h19 : t0 ≤ 19) (hcase : T ≤ 19 ∨ T ≤ 29 ∧ c ≤ 2)
    (hr : -1 ≤ s.disk.room) (hlf : s.disk.left = -1) : Good (ak s l).1 ∧ (ak s l).1.disk.left = -1 ∧ -1 ≤ (ak s l).1.disk.room ∧ (ak s l).1.turn = T ∧ (ak s l).1.next ≤ s.next + l.length ∧ (ak s l).1.tries = s.tries + 1 ∧ HeadOk T (ak s l).1.disk.cells ∧ (T ≤ 19 → kC T (c + 1) (ak s l).1.disk.cells) := by
  obtain ⟨hcd, hr1, hr2, hcs, hleft⟩ := iM (l := l) h hr (by omega)
  have hl2 := hleft (by omega)
  have hn3 : (ak s l).2 ≠ 3 := fun e => by
    rcases hcs with ⟨e1, _⟩ | ⟨e1, _⟩ | ⟨_, _, e1⟩ <;> omega
  have g := pM h hl hn (by omega) hr (by omega) hn3
  have hwt : (ak s l).1.disk.waits = [] := g.waits
  have hcut := pR h hn hcd (fun _ => false) (fun _ => none)
  rw [hwt] at hcut
  change Cut s l (ak s l).1.disk.cells at hcut
  have hlg := Ei h hT hl hn h9 htx hcut hlog ht0 h19 hcase
  refine ⟨g, by omega, hr1, ?_, ?_, ?_, ⟨by rw [hcut.low _ (by omega)]; exact hh.own, by unfold bl; rw [hcut.low _ (by omega)]; exact hh.other⟩, hlg.2⟩
  · rcases hcs with ⟨_, e, _⟩ | ⟨_, ⟨j, _, e, _⟩, _⟩ | ⟨e, _⟩
    · rw [e]; exact hT
    · rw [e]; exact hT
    · exact absurd e hn3
  · rcases hcs with ⟨_, e, _⟩ | ⟨_, ⟨j, _, e, _⟩, _⟩ | ⟨e, _⟩
    · rw [e]; exact Int.le_refl _
    · rw [e]; dsimp only; omega
    · exact absurd e hn3
  · rcases hcs with ⟨_, e, _⟩ | ⟨_, ⟨j, _, e, _⟩, _⟩ | ⟨e, _⟩
    · rw [e]
    · rw [e]
    · exact absurd e hn3
theorem Gz {k c T : Nat} {s : Stor} {e : Step} (h : PlayI k c T s) (hk : k ≤ 7) (he : StepD e) : Next k (setS (aG (ag (setS s e.room (-1))) (setS s e.room (-1)) e.list).1 (-1) (-1)) := by
  have hb := h.bound
  have hck := h.ck
  have hnx := h.next
  have htr := h.tries
  have hlen := he.len
  have hl1 := bW he.list
  rw [h.set he.room (Int.le_refl _)]
  have g0 := h.good.lim e.room (-1)
  rw [gV g0 he.room (Int.le_refl _)]
  have eO : aG true ⟨⟨s.disk.cells, s.disk.waits, e.room, -1⟩, s.turn, s.tries, s.next, s.pages⟩ e.list = bQ ⟨⟨s.disk.cells, s.disk.waits, e.room, -1⟩, s.turn, s.tries, s.next, s.pages⟩ e.list := by
    unfold aG; rw [if_pos rfl, if_pos he.list]
  rw [eO]
  obtain ⟨s0, hs0⟩ : ∃ s0 : Stor, s0 = ⟨⟨s.disk.cells, s.disk.waits, e.room, -1⟩, s.turn, s.tries, s.next, s.pages⟩ := ⟨_, rfl⟩
  rw [← hs0] at g0 ⊢
  have e1 : s0.turn = T := by rw [hs0]; exact h.turn
  have e2 : s0.next = s.next := by rw [hs0]
  have e3 : s0.tries = s.tries := by rw [hs0]
  have e4 : s0.disk.cells = s.disk.cells := by rw [hs0]
  have e5 : s0.disk.left = -1 := by rw [hs0]
  have e6 : -1 ≤ s0.disk.room := by rw [hs0]; exact he.room
  have hh0 : HeadOk T s0.disk.cells := by rw [e4]; exact h.heads
  have hlog0 : kC (min T 19) c s0.disk.cells := by rw [e4]; exact h.log
  by_cases hA : s0.next + e.list.length ≤ 20 ∧ s0.tries < 99
  · have eP : bQ s0 e.list = ak s0 e.list := by unfold bQ; rw [if_pos hA]
    rw [eP]
    obtain ⟨g, hl, hr, f1, f2, f3, f4, f5⟩ := wH g0 e1 hh0 he.list hA.1 (by omega) he.text hlog0 (by omega) (by omega) (by omega) e6 e5
    generalize ak s0 e.list = R at g hl hr f1 f2 f3 f4 f5 ⊢
    obtain ⟨x, rb⟩ := R
    dsimp only at g hl hr f1 f2 f3 f4 f5 ⊢
    rw [wG g hr (by omega)]
    have hg2 := g.lim (-1) (-1)
    refine ⟨fun hk6 => ⟨c + 1, T, hg2, f1, rfl, rfl, f4, ?_, by dsimp only; omega, by dsimp only; omega, by omega, by omega⟩, ⟨hg2, rfl, rfl, by dsimp only; omega, T, f1, by omega, f4⟩⟩
    rw [show min T 19 = T by omega]
    exact f5 (by omega)
  · obtain ⟨g, hl, hr, hlog, hcs⟩ := Ac (T := T) g0 e1 (by omega) hh0 e6 e5
    have hlogR : kC (min T 19) c (ah s0).1.disk.cells := mM hlog0 hlog
    rcases hcs with ⟨c0, f1, f2, f3, hh⟩ | ⟨c0, f1, f2, f3, hh⟩
    · have eP : bQ s0 e.list = ak (ah s0).1 e.list := by unfold bQ; rw [if_neg hA, if_pos c0]
      rw [eP]
      obtain ⟨g', hl', hr', k1, k2, k3, k4, k5⟩ := wH (T := T + 1) g f1 hh he.list (by omega) (by omega) he.text hlogR (by omega) (by omega) (by omega) hr hl
      generalize ak (ah s0).1 e.list = R at g' hl' hr' k1 k2 k3 k4 k5 ⊢
      obtain ⟨x, rb⟩ := R
      dsimp only at g' hl' hr' k1 k2 k3 k4 k5 ⊢
      rw [wG g' hr' (by omega)]
      have hg2 := g'.lim (-1) (-1)
      refine yO (c := c + 1) (T := T + 1) hk ⟨hg2, k1, rfl, rfl, k4, ?_, by dsimp only; omega, by dsimp only; omega, by omega, by omega⟩
      rw [show min (T + 1) 19 = T + 1 by omega]
      exact k5 (by omega)
    · have eP : bQ s0 e.list = ah s0 := by unfold bQ; rw [if_neg hA, if_neg (by omega)]
      rw [eP]
      generalize ah s0 = R at g hl hr hlogR f1 f2 f3 hh ⊢
      obtain ⟨x, rb⟩ := R
      dsimp only at g hl hr hlogR f1 f2 f3 hh ⊢
      rw [wG g hr (by omega)]
      have hg2 := g.lim (-1) (-1)
      exact yO (c := c + 1) (T := T) hk ⟨hg2, f1, rfl, rfl, hh, Ju hlogR, by dsimp only; omega, by dsimp only; omega, by omega, by omega⟩
theorem yP {k c c1 T T1 : Nat} {s s1 : Stor} {cs : List ByteArray} {e : Step} {t : Nat} (hk : k ≤ 7) (hf : Fallen T1 cs s1) (hT29 : T1 + 2 ≤ 29) (he : StepD0 e) (hck : c1 ≤ k + 1) (hb : T1 + 2 + min c1 5 ≤ 3 * (k + 1) + 1) (hlog : k ≤ 6 → kC t c1 cs ∧ t ≤ T1 ∧ t ≤ 19) :
    Next k (dn (ai (kQ ⟨cs, [], -1, -1⟩ e))).1 := by
  obtain ⟨T3, s3, e3, g, hr, hl, ht, h1, h2, hn, htr, hh, hsame⟩ := O0 hf hT29 he
  rw [e3]
  refine ⟨fun hk6 => ⟨c1, T3, g, ht, hr, hl, hh, ?_, by omega, by omega, by omega, by omega⟩, ⟨g, hr, hl, by omega, T3, ht, by omega, hh⟩⟩
  obtain ⟨hlg, ht1, ht2⟩ := hlog hk6
  exact mM (Nb hlg (by omega)) hsame
theorem wI {s s' : Stor} {T : Nat} {cs : List ByteArray} (h : FellTo s T cs s') : ∃ T1, Fallen T1 cs s' ∧ T ≤ T1 ∧ T1 ≤ T + 1 := by
  refine ⟨s'.turn.toNat, ⟨h.good, h.disk, ?_, h.heads⟩, ?_, ?_⟩ <;> rcases h.turn with ⟨e, _⟩ | ⟨e, _⟩ <;> omega
theorem tH {k c T : Nat} {s : Stor} {e : Step} (h : PlayI k c T s) (hk : k ≤ 7) (he : StepD0 e) : Next k (nJ (ah (setS s e.room e.left)).1.disk e) ∧ UpOk (kQ (dH (ah (setS s e.room e.left)).1.disk e.mask e.cut e.bytes) e) := by
  have hb := h.bound
  have hck := h.ck
  rw [h.set he.room he.left]
  have g0 := h.good.lim e.room e.left
  obtain ⟨s0, hs0⟩ : ∃ s0 : Stor, s0 = ⟨⟨s.disk.cells, s.disk.waits, e.room, e.left⟩, s.turn, s.tries, s.next, s.pages⟩ := ⟨_, rfl⟩
  rw [← hs0] at g0 ⊢
  have e1 : s0.turn = T := by rw [hs0]; exact h.turn
  have e4 : s0.disk.cells = s.disk.cells := by rw [hs0]
  have hh0 : HeadOk T s0.disk.cells := by rw [e4]; exact h.heads
  obtain ⟨hr, hr1, hr2, _⟩ := dQ g0 (by omega) (by rw [hs0]; exact he.room) (by rw [hs0]; exact he.left)
  unfold nJ
  rw [iZ (rP g0 hr hr1 hr2) he.mask]
  obtain ⟨s', ha⟩ := uI g0 e1 (by omega) hh0 hr (dK e.mask) (gz e.cut e.bytes)
  obtain ⟨T1, hf, t1, t2⟩ := wI ha
  refine ⟨?_, wF hf (by omega) he⟩
  refine yP (c := c) (T := T) (s := s) (t := min T 19) hk hf (by omega) he (by omega) (by omega) fun _ => ⟨mM h.log (fun k hk => by rw [ha.log k hk, e4]), by omega, by omega⟩
theorem CY {k c T : Nat} {s : Stor} {e : Step} (h : PlayI k c T s) (hk : k ≤ 7) (he : StepD e) : Next k (nJ (aG (ag (setS s e.room e.left)) (setS s e.room e.left) e.list).1.disk e) ∧ UpOk (kQ (dH (aG (ag (setS s e.room e.left)) (setS s e.room e.left) e.list).1.disk e.mask e.cut e.bytes) e) := by
  have hb := h.bound
  have hck := h.ck
  have hnx := h.next
  have htr := h.tries
  have hlen := he.len
  have hl1 := bW he.list
  rw [h.set he.room he.left]
  have g0 := h.good.lim e.room e.left
  rw [gV g0 he.room he.left]
  have eO : aG true ⟨⟨s.disk.cells, s.disk.waits, e.room, e.left⟩, s.turn, s.tries, s.next, s.pages⟩ e.list = bQ ⟨⟨s.disk.cells, s.disk.waits, e.room, e.left⟩, s.turn, s.tries, s.next, s.pages⟩ e.list := by
    unfold aG; rw [if_pos rfl, if_pos he.list]
  rw [eO]
  obtain ⟨s0, hs0⟩ : ∃ s0 : Stor, s0 = ⟨⟨s.disk.cells, s.disk.waits, e.room, e.left⟩, s.turn, s.tries, s.next, s.pages⟩ := ⟨_, rfl⟩
  rw [← hs0] at g0 ⊢
  have e1 : s0.turn = T := by rw [hs0]; exact h.turn
  have e2 : s0.next = s.next := by rw [hs0]
  have e3 : s0.tries = s.tries := by rw [hs0]
  have e4 : s0.disk.cells = s.disk.cells := by rw [hs0]
  have e5 : -1 ≤ s0.disk.left := by rw [hs0]; exact he.left
  have e6 : -1 ≤ s0.disk.room := by rw [hs0]; exact he.room
  have hh0 : HeadOk T s0.disk.cells := by rw [e4]; exact h.heads
  have hlog0 : kC (min T 19) c s0.disk.cells := by rw [e4]; exact h.log
  unfold nJ
  by_cases hA : s0.next + e.list.length ≤ 20 ∧ s0.tries < 99
  · have eP : bQ s0 e.list = ak s0 e.list := by unfold bQ; rw [if_pos hA]
    rw [eP]
    have hce := iM (l := e.list) g0 e6 e5
    have hcd := hce.1
    have hr1 := hce.2.1
    have hr2 := hce.2.2.1
    clear hce
    rw [iZ (yf g0 hA.1 hcd hr1 hr2) he.mask]
    have hcut := pR g0 hA.1 hcd (dK e.mask) (gz e.cut e.bytes)
    have hlg := Ei g0 e1 he.list hA.1 (by omega) he.text hcut hlog0 (by omega) (by omega) (by omega)
    obtain ⟨s1, hf⟩ := zZ g0 e1 hh0 hcut hlg.1
    refine ⟨?_, wF hf (by omega) he.toStepD0⟩
    refine yP (c := c) (T := T) (s := s) (t := T) hk hf (by omega) he.toStepD0 (c1 := c + 1) (by omega) (by omega) fun hk6 => ⟨hlg.2 (by omega), Nat.le_refl _, by omega⟩
  · by_cases c0 : (ah s0).2 = 0
    · have eP : bQ s0 e.list = ak (ah s0).1 e.list := by unfold bQ; rw [if_neg hA, if_pos c0]
      rw [eP]
      obtain ⟨hr, hr1, hr2, hcs, _⟩ := dQ g0 (by omega) e6 e5
      rcases hcs with ⟨_, ⟨c1, hf, hc, hw⟩, hs⟩ | ⟨h2, _⟩ | ⟨h2, _⟩
      · have hd := xC (rm := (ah s0).1.disk.room) (lf := (ah s0).1.disk.left) g0 e1 (by omega) hh0 hf
        generalize ah s0 = R at hr hr1 hr2 hc hw hs hd c0 ⊢
        obtain ⟨⟨⟨rc, rw', rr, rl⟩, rt, rtr, rn, rp⟩, rb⟩ := R
        dsimp only at hr hr1 hr2 hc hw hs hd c0 ⊢
        simp only [Stor.mk.injEq, true_and] at hs
        obtain ⟨q1, q2, q3, q4⟩ := hs
        subst hc hw q1 q2 q3 q4
        obtain ⟨gX, hhX, hlX⟩ := hd
        have tX : s0.turn + 1 = ((T + 1 : Nat) : Int) := by omega
        generalize hX : (⟨⟨c1.set (headW s0).cell.toNat (headW s0).text, [], rr, rl⟩, s0.turn + 1, 0, 0, s0.pages⟩ : Stor) = X at gX ⊢
        have x1 : X.turn = ((T + 1 : Nat) : Int) := by rw [← hX]; exact tX
        have x2 : X.next = 0 := by rw [← hX]
        have x3 : X.tries = 0 := by rw [← hX]
        have x4 : X.disk.cells = c1.set (headW s0).cell.toNat (headW s0).text := by rw [← hX]
        rw [← x4] at hhX hlX
        have hlogX : kC (min T 19) c X.disk.cells := mM hlog0 hlX
        have hce := iM (l := e.list) gX (by rw [← hX]; exact hr1) (by rw [← hX]; exact hr2)
        have hcd := hce.1
        have hr1' := hce.2.1
        have hr2' := hce.2.2.1
        clear hce
        rw [iZ (yf gX (by omega) hcd hr1' hr2') he.mask]
        have hcut := pR gX (by omega) hcd (dK e.mask) (gz e.cut e.bytes)
        have hlg := Ei gX x1 he.list (by omega) (by omega) he.text hcut hlogX (by omega) (by omega) (by omega)
        obtain ⟨s1, hf1⟩ := zZ gX x1 hhX hcut hlg.1
        refine ⟨?_, wF hf1 (by omega) he.toStepD0⟩
        refine yP (c := c) (T := T) (s := s) (t := T + 1) hk hf1 (by omega) he.toStepD0 (c1 := c + 1) (by omega) (by omega) fun hk6 => ⟨hlg.2 (by omega), Nat.le_refl _, by omega⟩
      · omega
      · omega
    · have eP : bQ s0 e.list = ah s0 := by unfold bQ; rw [if_neg hA, if_neg c0]
      rw [eP]
      obtain ⟨hr, hr1, hr2, _⟩ := dQ g0 (by omega) e6 e5
      rw [iZ (rP g0 hr hr1 hr2) he.mask]
      obtain ⟨s', ha⟩ := uI g0 e1 (by omega) hh0 hr (dK e.mask) (gz e.cut e.bytes)
      obtain ⟨T1, hf, t1, t2⟩ := wI ha
      refine ⟨?_, wF hf (by omega) he.toStepD0⟩
      refine yP (c := c) (T := T) (s := s) (t := min T 19) hk hf (by omega) he.toStepD0 (c1 := c + 1) (by omega) (by omega) fun _ => ⟨Ju (mM hlog0 ha.log), by omega, by omega⟩
def IA (s : Stor) (e : Step) : Prop :=
  (e.kind = 3 → UpOk (kQ (dH (aG (ag (setS s e.room e.left)) (setS s e.room e.left) e.list).1.disk e.mask e.cut e.bytes) e)) ∧
  (¬ e.kind = 1 → ¬ e.kind = 2 → ¬ e.kind = 3 → UpOk (kQ (dH (ah (setS s e.room e.left)).1.disk e.mask e.cut e.bytes) e))
theorem KT {k c T : Nat} {s : Stor} {e : Step} (h : PlayI k c T s) (hk : k ≤ 7) (he0 : StepD0 e) (he : e.kind = 2 ∨ e.kind = 3 → StepD e) : Next k (stepS s e) ∧ IA s e := by
  refine ⟨?_, fun k3 => (CY h hk (he (.inr k3))).2, fun _ _ _ => (tH h hk he0).2⟩
  unfold stepS
  split
  · exact KR h hk he0
  · split
    · exact Gz h hk (he (.inl (by assumption)))
    · split
      · exact (CY h hk (he (.inr (by assumption)))).1
      · exact (tH h hk he0).1
end Go.Pv
set_option linter.unusedVariables false
set_option linter.unusedSimpArgs false
namespace Go.Pv
open Go.Lib
theorem Ad {c : List ByteArray} {T : Int} (h : ∀ m, m < 20 → cellAt c (22 + m) = ByteArray.empty) : nV c T := by
  intro n f hn hf hp hc
  have := h n hn
  unfold cellAt at this
  rw [this] at hc
  have e := congrArg (fun x => x.data.toList.length) hc
  have e2 : (fl f).length = 0 := e.symm
  rw [zN] at e2
  omega
theorem Ae {c : List ByteArray} {T : Int} (ht : 1 ≤ T ∧ T ≤ 99999) (h : ∀ m, m < 20 → cellAt c (22 + m) = ByteArray.empty) : ∀ m, m < 20 → (gOf c T m).1 ≤ 0 := fun m hm => by
  rcases Int.lt_or_le 0 (gOf c T m).1 with hp | hp
  · obtain ⟨f, hf, e1, e2, e3, _⟩ := Gs ht hm hp
    have := Ad (T := 0) h m f hm hf e2 e3.symm
    have := hf.1
    omega
  · exact hp
theorem Af {c : List ByteArray} {T rm lf : Int} {P : List ByteArray} (hl : c.length = 42) (ht : 1 ≤ T ∧ T ≤ 99999) (h : ∀ m, m < 20 → cellAt c (22 + m) = ByteArray.empty) (hh : max (aA (cellAt c 0) 0) (aA (cellAt c 1) 1) = T) (hsm : ∀ k, (cellAt c k).size ≤ 1200) (hP : ay c = P) (hb : gQ P = false) :
    Good ⟨⟨c, [], rm, lf⟩, T, 0, 0, P⟩ := by
  have hz := Ae ht h
  refine { len := hl, waits := rfl, small := hsm, turn := ht, tries := ?_, next := Int.le_refl 0, heads := hh, late := Ad h, read := ⟨0, ?_⟩, most := hz, big := hb }
  · exact ⟨Int.le_refl 0, (by decide : (0 : Int) ≤ 99)⟩
  · dsimp only
    rw [hP]
    refine .stop _ _ _ ?_
    show (aY (gOf c T) 0 20 0 0 []).1 ≤ 0
    unfold aY
    rw [if_pos (.inl (hz 0 (by omega)))]
    exact Int.le_refl 0
def newC : List ByteArray := (List.replicate 42 ByteArray.empty).set 1 (headB 1)
theorem lU (k : Nat) : cellAt newC k = if k = 1 then headB 1 else ByteArray.empty := by
  unfold newC
  rw [at_set]
  by_cases h : k = 1
  · rw [if_pos ⟨h.symm, by rw [List.length_replicate]; omega⟩, if_pos h]
  · rw [if_neg (fun e => h e.1.symm), if_neg h]
    unfold cellAt
    rw [List.getD_eq_getElem?_getD, List.getElem?_replicate]
    split <;> rfl
theorem qE (place : Int) : aA ByteArray.empty place = 0 := by
  unfold aA
  rw [if_neg]
  intro h
  have := h.1
  simp at this
theorem Ag (rm lf : Int) : Good ⟨⟨newC, [], rm, lf⟩, 1, 0, 0, ay newC⟩ := by
  refine Af (by unfold newC; rw [List.length_set]; rfl) (by decide) (fun m hm => by rw [lU, if_neg (by omega)]) ?_ (fun k => ?_) rfl ?_
  · rw [lU, lU, if_neg (by omega), if_pos rfl, qE, jC (n := 1) (by decide) (by decide)]
    rfl
  · rw [lU]
    split
    · exact kR (by decide) (by decide)
    · exact Nat.zero_le _
  · refine lG fun k hk => decide_eq_false ?_
    have e := jk (c := newC) (by unfold newC; rw [List.length_set]; rfl) hk
    unfold cellAt at e
    have e2 := lU (2 + k)
    unfold cellAt at e2
    rw [e, e2, if_neg (by omega)]
    simp
theorem Nc (rm lf : Int) : PlayI 0 0 1 ⟨⟨newC, [], -1, -1⟩, 1, 0, 0, ay newC⟩ := by
  refine ⟨Ag _ _, rfl, rfl, rfl, ⟨?_, ?_⟩, fun p hp => ?_, Int.le_refl 0, Int.le_refl 0, Nat.le_refl 0, by omega⟩
  · show cellAt newC 1 = headB ((1 : Nat) : Int)
    rw [lU, if_pos rfl]
    rfl
  · show HLay 2 (bl newC 0)
    unfold bl
    rw [lU, if_neg (by omega)]
    exact .nil _
  · have e : bl newC (22 + p) = [] := by unfold bl; rw [lU, if_neg (by omega)]; rfl
    show Inv _ _ (bl newC (22 + p)) ∧ Lay 0 (bl newC (22 + p))
    rw [e]
    exact ⟨Inv.nil _ _, ⟨fun _ => rfl, fun h => by omega, fun h => by omega⟩⟩
theorem Jv : newS = ⟨⟨newC, [], -1, -1⟩, 1, 0, 0, ay newC⟩ := by
  have hw : wtOk ⟨1, headB 1⟩ = true := by
    unfold wtOk
    rw [Bool.and_eq_true]
    exact ⟨rfl, decide_eq_true (kR (by decide) (by decide))⟩
  have e : aV (aO jZ 1 (headB 1)).1 = ⟨newC, [], -1, -1⟩ := by
    rw [iD (by decide) (by rw [hw]; decide)]
    rfl
  unfold newS
  rw [e]
  have g := Ag (-1) (-1)
  obtain ⟨A, hA⟩ := g.read
  have := zS (d := ⟨newC, [], -1, -1⟩) g.heads g.turn.1 g.late (N := 0) (Int.le_refl 0) hA g.big
  rw [this]
  have hz := Ae (c := newC) (T := 1) (by decide) (fun m hm => by rw [lU, if_neg (by omega)])
  have ht : trL (gOf newC 1) 20 = 0 := by
    have h1 := Eg (g := gOf newC 1) (Int.le_refl 0) (n := 20) hz
    have h2 := (uu (gOf newC 1) (o5 newC 1) 20).1
    omega
  show (⟨⟨newC, [], -1, -1⟩, 1, trL (gOf newC 1) 20, 0, ay newC⟩ : Stor) = _
  rw [ht]
def jb (s : Stor) (T : Int) : List ByteArray := (((s.disk.cells.set 0 ByteArray.empty).set 1 ByteArray.empty).set (T.tmod 2).toNat (headB T)).take 2 ++ s.pages ++ List.replicate 20 ByteArray.empty
theorem CZ {s : Stor} {T rm lf : Int} (h : Good s) (hT : 1 ≤ T ∧ T ≤ 99999) : Good ⟨⟨jb s T, [], rm, lf⟩, T, 0, 0, s.pages⟩ := by
  have hp := h.pages_len
  have hl := h.len
  have hl2 : ((((s.disk.cells.set 0 ByteArray.empty).set 1 ByteArray.empty).set (T.tmod 2).toNat (headB T)).take 2).length = 2 := by
    rw [List.length_take, List.length_set, List.length_set, List.length_set, hl]; rfl
  have hlen : (jb s T).length = 42 := by unfold jb; rw [List.length_append, List.length_append, hl2, hp, List.length_replicate]
  have hm : T.tmod 2 = 0 ∨ T.tmod 2 = 1 := by rw [Int.tmod_eq_emod_of_nonneg (by omega)]; omega
  have h2 : ∀ k, k < 2 → cellAt (jb s T) k = if (T.tmod 2).toNat = k then headB T else ByteArray.empty := fun k hk => by
    have e1 : cellAt (jb s T) k = cellAt (((s.disk.cells.set 0 ByteArray.empty).set 1 ByteArray.empty).set (T.tmod 2).toNat (headB T)) k := by
      unfold cellAt jb
      rw [List.append_assoc, List.getD_eq_getElem?_getD, List.getElem?_append_left (by omega), List.getElem?_take, if_pos hk, List.getD_eq_getElem?_getD]
    rw [e1, at_set, List.length_set, List.length_set, hl]
    by_cases e : (T.tmod 2).toNat = k
    · rw [if_pos ⟨e, by omega⟩, if_pos e]
    · rw [if_neg (fun h => e h.1), if_neg e, at_set, List.length_set, hl, at_set, hl]
      have : k = 0 ∨ k = 1 := by omega
      rcases this with rfl | rfl
      · rw [if_neg (by omega), if_pos ⟨rfl, by omega⟩]
      · rw [if_pos ⟨rfl, by omega⟩]
  have hd : ∀ q, q < 20 → cellAt (jb s T) (2 + q) = cellAt s.pages q := fun q hq => by
    unfold cellAt jb
    rw [List.append_assoc, List.getD_eq_getElem?_getD, List.getElem?_append_right (by omega), hl2, show 2 + q - 2 = q by omega, List.getElem?_append_left (by omega), List.getD_eq_getElem?_getD]
  have hlg : ∀ m, m < 20 → cellAt (jb s T) (22 + m) = ByteArray.empty := fun m hm => by
    unfold cellAt jb
    rw [List.append_assoc, List.getD_eq_getElem?_getD, List.getElem?_append_right (by omega), hl2, List.getElem?_append_right (by omega), hp, List.getElem?_replicate, if_pos (by omega)]
    rfl
  have hps : ∀ q, q < 20 → (cellAt s.pages q).size ≤ 1100 := fun q hq => by
    have := of_decide_eq_false (kN h.big hq)
    unfold cellAt
    omega
  refine Af hlen hT hlg ?_ (fun k => ?_) ?_ h.big
  · rw [h2 0 (by omega), h2 1 (by omega)]
    have ht := jC (n := T) hT rfl
    rcases hm with e | e
    · rw [e] at ht ⊢
      rw [show (0 : Int).toNat = 0 from rfl, if_pos rfl, if_neg (by omega), ht, qE]; omega
    · rw [e] at ht ⊢
      rw [show (1 : Int).toNat = 1 from rfl, if_neg (by omega), if_pos rfl, ht, qE]; omega
  · rcases Nat.lt_or_ge k 2 with hk | hk
    · rw [h2 k hk]
      split
      · exact kR (by omega) (by omega)
      · exact Nat.zero_le _
    · rcases Nat.lt_or_ge k 22 with hk2 | hk2
      · have := hd (k - 2) (by omega)
        rw [show 2 + (k - 2) = k by omega] at this
        rw [this]
        have := hps (k - 2) (by omega)
        omega
      · rcases Nat.lt_or_ge k 42 with hk3 | hk3
        · have := hlg (k - 22) (by omega)
          rw [show 22 + (k - 22) = k by omega] at this
          rw [this]
          exact Nat.zero_le _
        · rw [at_out (by omega)]; exact Nat.zero_le _
  · refine rD (by rw [bP hlen, hp]) fun k hk => ?_
    rw [bP hlen] at hk
    rw [jk hlen hk, hd k hk]
end Go.Pv
