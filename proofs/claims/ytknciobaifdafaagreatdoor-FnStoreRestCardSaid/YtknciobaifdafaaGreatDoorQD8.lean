/- The draws of the store, part 8: what the end of a turn leaves of a disk. -/
import Derived.Test.YtknciobaifdafaaGreatDoorQD4
set_option linter.unusedVariables false
set_option linter.unusedSimpArgs false
namespace Go.Pv
theorem uG {d : Dk} (h : d.left = 0) : aV d = d := if_pos h
theorem uH {d : Dk} (h : ¬ d.left = 0) : aV d = ⟨aj d.cells d.waits, [], d.room, au d.left⟩ := if_neg h
theorem bK {n : Int} (h : -1 ≤ n) : -1 ≤ au n := by unfold au; split <;> omega
theorem aW {n : Int} (h : n < 0) : au n = n := by unfold au; rw [if_neg (by omega)]
structure DW (s : Stor) (ws : List Wt) : Prop where
  mem : ∀ w ∈ ws, ∃ q : Nat, q < 20 ∧ w = ⟨2 + (q : Int), cellAt s.pages q⟩ ∧ cellAt s.disk.cells (2 + q) ≠ cellAt s.pages q ∧ w.text.size ≤ 1200
  len : ws.length ≤ 20
def Full (s : Stor) (c : List ByteArray) : Prop := DataOk s c ∧ ∀ q, q < 20 → cellAt c (2 + q) = cellAt s.pages q
def headW (s : Stor) : Wt := ⟨(s.turn + 1).tmod 2, headB (s.turn + 1)⟩
inductive RestDisk (s : Stor) (e : Dk) : Prop
  | data : DataOk s e.cells → DW s e.waits → RestDisk s e
  | head : Full s e.cells → e.waits = [headW s] → RestDisk s e
  | done (c1 : List ByteArray) : Full s c1 → e.cells = c1.set (headW s).cell.toNat (headW s).text → e.waits = [] → RestDisk s e
theorem rG {pages : List ByteArray} : ∀ (k i : Nat) (d : Dk), ∃ ws : List Wt, (bH pages k i d).1.cells = d.cells ∧ (bH pages k i d).1.waits = d.waits ++ ws ∧ ws.length ≤ k ∧
    (∀ w ∈ ws, ∃ q : Nat, i ≤ q ∧ q < i + k ∧ w = ⟨2 + (q : Int), cellAt pages q⟩ ∧ cellAt d.cells (2 + q) ≠ cellAt pages q ∧ w.text.size ≤ 1200) ∧
    ((bH pages k i d).2 = true → (bH pages k i d).1.left = 0 ∨ ∀ q, i ≤ q → q < i + k → cellAt d.cells (2 + q) = cellAt pages q ∨ ⟨2 + (q : Int), cellAt pages q⟩ ∈ ws) ∧
    (d.left < 0 → (bH pages k i d).1.left = d.left) ∧ (-1 ≤ d.left → -1 ≤ (bH pages k i d).1.left) ∧ (-1 ≤ d.room → -1 ≤ (bH pages k i d).1.room) ∧
    (d.room < 0 → (bH pages k i d).1.room = d.room ∧ (i + k ≤ 20 → d.waits.length + k ≤ 20 → (∀ q, (cellAt pages q).size ≤ 1200) → (bH pages k i d).2 = true))
  | 0, i, d => ⟨[], rfl, by simp [bH], Nat.le_refl _, by simp, fun _ => .inr fun q h1 h2 => by omega, fun _ => rfl, fun h => h, fun h => h, fun _ => ⟨rfl, fun _ _ _ => rfl⟩⟩
  | k + 1, i, d => by
    have ec : d.cells.getD (2 + i) ByteArray.empty = cellAt d.cells (2 + i) := rfl
    have ep : pages.getD i ByteArray.empty = cellAt pages i := rfl
    by_cases hs : cellAt d.cells (2 + i) = cellAt pages i
    · have e : bH pages (k + 1) i d = bH pages k (i + 1) d := by
        conv => lhs; unfold bH
        rw [ec, ep, if_pos hs]
      obtain ⟨ws, h1, h2, h3, h4, h5, h6, h7, h8, h9⟩ := rG (pages := pages) k (i + 1) d
      rw [e]
      refine ⟨ws, h1, h2, by omega, fun w hw => ?_, fun ht => ?_, h6, h7, h8, fun hr => ⟨(h9 hr).1, fun a b c => (h9 hr).2 (by omega) (by omega) c⟩⟩
      · obtain ⟨q, a, b, c⟩ := h4 w hw
        exact ⟨q, by omega, by omega, c⟩
      · rcases h5 ht with h | h
        · exact .inl h
        · refine .inr fun q h1 h2 => ?_
          by_cases e : q = i
          · subst e; exact .inl hs
          · exact h q (by omega) (by omega)
    · have e : bH pages (k + 1) i d = if (aO d (2 + i) (cellAt pages i)).2 = true then bH pages k (i + 1) (aO d (2 + i) (cellAt pages i)).1 else (d, false) := by
        conv => lhs; unfold bH
        rw [ec, ep, if_neg hs]
      by_cases hl : d.left = 0
      · rw [kY hl] at e
        dsimp only at e
        rw [if_pos rfl] at e
        obtain ⟨ws, h1, h2, h3, h4, h5, h6, h7, h8, h9⟩ := rG (pages := pages) k (i + 1) d
        have hz : ∀ (k i : Nat) (d : Dk), d.left = 0 → (bH pages k i d).1.left = 0 := by
          intro k
          induction k with
          | zero => intro i d h; exact h
          | succ k ih =>
            intro i d h
            unfold bH
            split
            · exact ih _ _ h
            · rw [kY h]; dsimp only; rw [if_pos rfl]; exact ih _ _ h
        rw [e]
        refine ⟨ws, h1, h2, by omega, fun w hw => ?_, fun ht => .inl (hz k (i + 1) d hl), fun h => by omega, h7, h8, fun hr => ⟨(h9 hr).1, fun a b c => (h9 hr).2 (by omega) (by omega) c⟩⟩
        obtain ⟨q, a, b, c⟩ := h4 w hw
        exact ⟨q, by omega, by omega, c⟩
      · by_cases hr : wtOk ⟨2 + (i : Int), cellAt pages i⟩ = false ∨ d.room = 0 ∨ 100 ≤ d.waits.length
        · rw [jY hl hr] at e
          dsimp only at e
          rw [if_neg (by simp)] at e
          rw [e]
          refine ⟨[], rfl, (List.append_nil _).symm, Nat.zero_le _, by simp, by simp, fun _ => rfl, fun h => h, fun h => h, fun hrm => ⟨rfl, fun a b c => ?_⟩⟩
          exfalso
          have hw : wtOk ⟨2 + (i : Int), cellAt pages i⟩ = true := by
            unfold wtOk
            rw [Bool.and_eq_true]
            exact ⟨decide_eq_true (by dsimp only; omega), decide_eq_true (c i)⟩
          rw [hw] at hr
          rcases hr with hr | hr | hr
          · cases hr
          · omega
          · omega
        · rw [iD hl hr] at e
          dsimp only at e
          rw [if_pos rfl] at e
          obtain ⟨ws, h1, h2, h3, h4, h5, h6, h7, h8, h9⟩ := rG (pages := pages) k (i + 1) ⟨d.cells, d.waits ++ [⟨2 + (i : Int), cellAt pages i⟩], au d.room, au d.left⟩
          rw [e]
          dsimp only at h1 h2 h4 h5 h6 h7 h8 h9
          rw [not_or, not_or] at hr
          have hw : wtOk ⟨2 + (i : Int), cellAt pages i⟩ = true := by simpa using hr.1
          unfold wtOk at hw
          rw [Bool.and_eq_true] at hw
          refine ⟨⟨2 + (i : Int), cellAt pages i⟩ :: ws, h1, by rw [h2, List.append_assoc]; rfl, by simp; omega, fun w hw' => ?_, fun ht => ?_, fun h => by rw [h6 (by rw [aW h]; exact h), aW h], fun h => h7 (bK h), fun h => h8 (bK h), fun hrm => ?_⟩
          · rcases List.mem_cons.1 hw' with rfl | hw'
            · exact ⟨i, Nat.le_refl _, by omega, rfl, hs, of_decide_eq_true hw.2⟩
            · obtain ⟨q, a, b, c⟩ := h4 w hw'
              exact ⟨q, by omega, by omega, c⟩
          · rcases h5 ht with h | h
            · exact .inl h
            · refine .inr fun q g1 g2 => ?_
              by_cases eq : q = i
              · subst eq; exact .inr (List.mem_cons_self ..)
              · rcases h q (by omega) (by omega) with h | h
                · exact .inl h
                · exact .inr (List.mem_cons_of_mem _ h)
          · have := h9 (by rw [aW hrm]; exact hrm)
            rw [aW hrm] at this ⊢
            exact ⟨this.1, fun a b c => this.2 (by omega) (by simp; omega) c⟩
theorem rH {s : Stor} (h : Good s) : DataOk s s.disk.cells := ⟨h.len, fun _ _ => rfl, fun _ _ => .inl rfl, h.small⟩
theorem Gw {s : Stor} {c : List ByteArray} {ws : List Wt} (hd : DataOk s c) (hw : DW s ws) : DataOk s (aj c ws) := by
  have hl : (aj c ws).length = 42 := by rw [aQ]; exact hd.len
  have cell : ∀ k, (∃ q : Nat, q < 20 ∧ k = 2 + q ∧ cellAt (aj c ws) k = cellAt s.pages q ∧ (cellAt (aj c ws) k).size ≤ 1200) ∨ cellAt (aj c ws) k = cellAt c k := fun k => by
    rcases Nat.lt_or_ge k c.length with hk | hk
    · rcases oJ (k := k) ws c hk with ⟨w, hw', e1, e2⟩ | ⟨_, e⟩
      · obtain ⟨q, hq, rfl, _, hs⟩ := hw.mem w hw'
        exact .inl ⟨q, hq, by dsimp only at e1; omega, e2, by rw [e2]; exact hs⟩
      · exact .inr e
    · right
      unfold cellAt
      rw [List.getD_eq_getElem?_getD, List.getD_eq_getElem?_getD, List.getElem?_eq_none (by rw [aQ]; omega), List.getElem?_eq_none hk]
  refine ⟨hl, fun k hk => ?_, fun q hq => ?_, fun k => ?_⟩
  · rcases cell k with ⟨q, hq, e, _⟩ | e
    · omega
    · rw [e]; exact hd.out k hk
  · rcases cell (2 + q) with ⟨q', hq', e, e2, _⟩ | e
    · obtain rfl : q' = q := by omega
      exact .inr (.inr e2)
    · rw [e]; exact hd.data q hq
  · rcases cell k with ⟨q, hq, _, _, e⟩ | e
    · exact e
    · rw [e]; exact hd.small k
theorem MX {s : Stor} {ws : List Wt} (h : Good s) (hw : DW s ws) (hall : ∀ q, q < 20 → cellAt s.disk.cells (2 + q) = cellAt s.pages q ∨ ⟨2 + (q : Int), cellAt s.pages q⟩ ∈ ws) : Full s (aj s.disk.cells ws) := by
  refine ⟨Gw (rH h) hw, fun q hq => ?_⟩
  rcases oJ (k := 2 + q) ws s.disk.cells (by rw [h.len]; omega) with ⟨w, hw', e1, e2⟩ | ⟨e1, e⟩
  · obtain ⟨q', hq', rfl, _⟩ := hw.mem w hw'
    dsimp only at e1 e2
    obtain rfl : q' = q := by omega
    exact e2
  · rcases hall q hq with h1 | h1
    · rw [e, h1]
    · exact absurd (by dsimp only; omega) (e1 _ h1)
theorem dQ {s : Stor} (h : Good s) (h9 : s.turn < 99999) (hrm : -1 ≤ s.disk.room) (hlf : -1 ≤ s.disk.left) :
    RestDisk s (ah s).1.disk ∧ -1 ≤ (ah s).1.disk.room ∧ -1 ≤ (ah s).1.disk.left ∧
    ((ah s).2 = 0 ∧ (∃ c1, Full s c1 ∧ (ah s).1.disk.cells = c1.set (headW s).cell.toNat (headW s).text ∧ (ah s).1.disk.waits = []) ∧ (ah s).1 = ⟨(ah s).1.disk, s.turn + 1, 0, 0, s.pages⟩ ∨
     (ah s).2 = 2 ∧ DataOk s (ah s).1.disk.cells ∧ (ah s).1.disk.waits = [] ∧ (ah s).1 = ⟨(ah s).1.disk, s.turn, s.tries, s.next, s.pages⟩ ∧ ¬ (ah s).1.disk.left = 0 ∨
     (ah s).2 = 3 ∧ (ah s).1 = ⟨(ah s).1.disk, s.turn, s.tries, s.next, s.pages⟩ ∧ (ah s).1.disk.left = 0) ∧
    (s.disk.left < 0 → (ah s).1.disk.left = s.disk.left) ∧ (s.disk.left < 0 → s.disk.room < 0 → (ah s).2 = 0 ∧ (ah s).1.disk.room = s.disk.room) := by
  obtain ⟨ws, g1, g2, g3, g4, g5, g6, g7, g8, g9⟩ := rG (pages := s.pages) 20 0 s.disk
  have hp := h.pages_len
  have hps : ∀ q, (cellAt s.pages q).size ≤ 1200 := fun q => by
    rcases Nat.lt_or_ge q 20 with hq | hq
    · have := of_decide_eq_false (kN h.big hq)
      unfold cellAt
      omega
    · unfold cellAt
      rw [List.getD_eq_getElem?_getD, List.getElem?_eq_none (by omega)]
      exact Nat.zero_le _
  have hw : DW s ws := ⟨fun w hw => by obtain ⟨q, _, b, c⟩ := g4 w hw; exact ⟨q, by omega, c⟩, g3⟩
  have hwt : wtOk (headW s) = true := by
    have := bT (s.turn + 1) (by have := h.turn; omega) (by omega)
    unfold wtOk headW headB
    rw [Bool.and_eq_true]
    refine ⟨decide_eq_true (by dsimp only; have := Int.emod_nonneg (s.turn + 1) (by decide : (2 : Int) ≠ 0); have := Int.emod_lt_of_pos (s.turn + 1) (by decide : (0 : Int) < 2); rw [Int.tmod_eq_emod_of_nonneg (by have := h.turn; omega)]; omega), decide_eq_true ?_⟩
    simp only [ByteArray.size_append, gK, List.size_toArray, List.length_cons, List.length_nil]
    omega
  rw [h.waits, List.nil_append] at g2
  have e0 : ah s = if (bH s.pages 20 0 s.disk).2 = true then fU s (aV (bH s.pages 20 0 s.disk).1) else bz s (bH s.pages 20 0 s.disk).1 0 := by
    unfold ah; rw [if_neg (by omega)]
  rw [h.waits] at g9
  generalize bH s.pages 20 0 s.disk = R at g1 g2 g5 g6 g7 g8 g9 e0
  obtain ⟨⟨rc, rw', rr, rl⟩, rb⟩ := R
  dsimp only at g1 g2 g5 g6 g7 g8 g9 e0
  subst g1 g2
  have hput := Gw (rH h) hw
  have hdw0 : DW s [] := ⟨by simp, by simp⟩
  cases rb with
  | false =>
    rw [if_neg (by simp)] at e0
    by_cases hl : rl = 0
    · have e : ah s = (⟨⟨s.disk.cells, rw', rr, rl⟩, s.turn, s.tries, s.next, s.pages⟩, 3) := by
        rw [e0]; unfold bz; rw [uG (d := ⟨s.disk.cells, rw', rr, rl⟩) hl, if_pos hl]; rfl
      rw [e]
      exact ⟨.data (rH h) hw, g8 hrm, g7 hlf, .inr (.inr ⟨rfl, rfl, hl⟩), fun hn => g6 hn, fun h1 h2 => by have := (g9 h2).2 (by omega) (by simp) hps; cases this⟩
    · have es : aV ⟨s.disk.cells, rw', rr, rl⟩ = ⟨aj s.disk.cells rw', [], rr, au rl⟩ := uH hl
      by_cases hl2 : au rl = 0
      · have e : ah s = (⟨⟨aj s.disk.cells rw', [], rr, au rl⟩, s.turn, s.tries, s.next, s.pages⟩, 3) := by
          rw [e0]; unfold bz; rw [es, if_pos hl2]; rfl
        rw [e]
        exact ⟨.data hput hdw0, g8 hrm, bK (g7 hlf), .inr (.inr ⟨rfl, rfl, hl2⟩), fun hn => by dsimp only; rw [g6 hn, aW hn], fun h1 h2 => by have := (g9 h2).2 (by omega) (by simp) hps; cases this⟩
      · have e : ah s = (⟨⟨aj s.disk.cells rw', [], rr, au rl⟩, s.turn, s.tries, s.next, s.pages⟩, 2) := by
          rw [e0]; unfold bz; rw [es, if_neg hl2, Int.add_zero]
        rw [e]
        exact ⟨.data hput hdw0, g8 hrm, bK (g7 hlf), .inr (.inl ⟨rfl, hput, rfl, rfl, hl2⟩), fun hn => by dsimp only; rw [g6 hn, aW hn], fun h1 h2 => by have := (g9 h2).2 (by omega) (by simp) hps; cases this⟩
  | true =>
    rw [if_pos rfl] at e0
    by_cases hl : rl = 0
    · have e : ah s = (⟨⟨s.disk.cells, rw', rr, rl⟩, s.turn, s.tries, s.next, s.pages⟩, 3) := by
        rw [e0, uG (d := ⟨s.disk.cells, rw', rr, rl⟩) hl]
        unfold fU
        rw [kY (d := ⟨s.disk.cells, rw', rr, rl⟩) hl]
        dsimp only
        rw [if_pos rfl, uG (d := ⟨s.disk.cells, rw', rr, rl⟩) hl]
        unfold endS
        rw [if_pos hl]; rfl
      rw [e]
      exact ⟨.data (rH h) hw, g8 hrm, g7 hlf, .inr (.inr ⟨rfl, rfl, hl⟩), fun hn => g6 hn, fun h1 h2 => by have := g6 h1; omega⟩
    · have es : aV ⟨s.disk.cells, rw', rr, rl⟩ = ⟨aj s.disk.cells rw', [], rr, au rl⟩ := uH hl
      rw [es] at e0
      have hfull : Full s (aj s.disk.cells rw') := MX h hw fun q hq => by
        rcases g5 rfl with h1 | h1
        · exact absurd h1 hl
        · exact h1 q (by omega) (by omega)
      by_cases hl1 : au rl = 0
      · have e : ah s = (⟨⟨aj s.disk.cells rw', [], rr, au rl⟩, s.turn, s.tries, s.next, s.pages⟩, 3) := by
          rw [e0]
          unfold fU
          rw [kY (d := ⟨aj s.disk.cells rw', [], rr, au rl⟩) hl1]
          dsimp only
          rw [if_pos rfl, uG (d := ⟨aj s.disk.cells rw', [], rr, au rl⟩) hl1]
          unfold endS
          rw [if_pos hl1]; rfl
        rw [e]
        exact ⟨.data hput hdw0, g8 hrm, bK (g7 hlf), .inr (.inr ⟨rfl, rfl, hl1⟩), fun hn => by dsimp only; rw [g6 hn, aW hn], fun h1 h2 => by have := g6 h1; rw [this, aW h1] at hl1; omega⟩
      · by_cases hr0 : rr = 0
        · have ew : aO ⟨aj s.disk.cells rw', [], rr, au rl⟩ ((s.turn + 1).tmod 2) (headB (s.turn + 1)) = (⟨aj s.disk.cells rw', [], rr, au rl⟩, false) := jY hl1 (.inr (.inl hr0))
          have es2 : aV ⟨aj s.disk.cells rw', [], rr, au rl⟩ = ⟨aj s.disk.cells rw', [], rr, au (au rl)⟩ := uH hl1
          by_cases hl2 : au (au rl) = 0
          · have e : ah s = (⟨⟨aj s.disk.cells rw', [], rr, au (au rl)⟩, s.turn, s.tries, s.next, s.pages⟩, 3) := by
              rw [e0]
              unfold fU
              rw [ew]
              dsimp only
              rw [if_neg (by simp)]
              unfold bz
              rw [es2, if_pos hl2]; rfl
            rw [e]
            exact ⟨.data hput hdw0, g8 hrm, bK (bK (g7 hlf)), .inr (.inr ⟨rfl, rfl, hl2⟩), fun hn => by dsimp only; rw [g6 hn, aW hn, aW hn], fun h1 h2 => by have := (g9 h2).1; omega⟩
          · have e : ah s = (⟨⟨aj s.disk.cells rw', [], rr, au (au rl)⟩, s.turn, s.tries, s.next, s.pages⟩, 2) := by
              rw [e0]
              unfold fU
              rw [ew]
              dsimp only
              rw [if_neg (by simp)]
              unfold bz
              rw [es2, if_neg hl2, Int.add_zero]
            rw [e]
            exact ⟨.data hput hdw0, g8 hrm, bK (bK (g7 hlf)), .inr (.inl ⟨rfl, hput, rfl, rfl, hl2⟩), fun hn => by dsimp only; rw [g6 hn, aW hn, aW hn], fun h1 h2 => by have := (g9 h2).1; omega⟩
        · have ew : aO ⟨aj s.disk.cells rw', [], rr, au rl⟩ ((s.turn + 1).tmod 2) (headB (s.turn + 1)) = (⟨aj s.disk.cells rw', [headW s], au rr, au (au rl)⟩, true) :=
            iD hl1 (by rw [show wtOk ⟨(s.turn + 1).tmod 2, headB (s.turn + 1)⟩ = true from hwt]; simp; exact hr0)
          by_cases hl2 : au (au rl) = 0
          · have e : ah s = (⟨⟨aj s.disk.cells rw', [headW s], au rr, au (au rl)⟩, s.turn, s.tries, s.next, s.pages⟩, 3) := by
              rw [e0]
              unfold fU
              rw [ew]
              dsimp only
              rw [if_pos rfl, uG (d := ⟨aj s.disk.cells rw', [headW s], au rr, au (au rl)⟩) hl2]
              unfold endS
              rw [if_pos hl2]; rfl
            rw [e]
            exact ⟨.head hfull rfl, bK (g8 hrm), bK (bK (g7 hlf)), .inr (.inr ⟨rfl, rfl, hl2⟩), fun hn => by dsimp only; rw [g6 hn, aW hn, aW hn], fun h1 h2 => by have := g6 h1; rw [this, aW h1, aW h1] at hl2; omega⟩
          · have es3 : aV ⟨aj s.disk.cells rw', [headW s], au rr, au (au rl)⟩ = ⟨(aj s.disk.cells rw').set (headW s).cell.toNat (headW s).text, [], au rr, au (au (au rl))⟩ := uH hl2
            by_cases hl3 : au (au (au rl)) = 0
            · have e : ah s = (⟨⟨(aj s.disk.cells rw').set (headW s).cell.toNat (headW s).text, [], au rr, au (au (au rl))⟩, s.turn, s.tries, s.next, s.pages⟩, 3) := by
                rw [e0]
                unfold fU
                rw [ew]
                dsimp only
                rw [if_pos rfl, es3]
                unfold endS
                rw [if_pos hl3]; rfl
              rw [e]
              exact ⟨.done _ hfull rfl rfl, bK (g8 hrm), bK (bK (bK (g7 hlf))), .inr (.inr ⟨rfl, rfl, hl3⟩), fun hn => by dsimp only; rw [g6 hn, aW hn, aW hn, aW hn], fun h1 h2 => by have := g6 h1; rw [this, aW h1, aW h1, aW h1] at hl3; omega⟩
            · have e : ah s = (⟨⟨(aj s.disk.cells rw').set (headW s).cell.toNat (headW s).text, [], au rr, au (au (au rl))⟩, s.turn + 1, 0, 0, s.pages⟩, 0) := by
                rw [e0]
                unfold fU
                rw [ew]
                dsimp only
                rw [if_pos rfl, es3]
                unfold endS
                rw [if_neg hl3]; rfl
              rw [e]
              exact ⟨.done _ hfull rfl rfl, bK (g8 hrm), bK (bK (bK (g7 hlf))), .inl ⟨rfl, ⟨_, hfull, rfl, rfl⟩, rfl⟩, fun hn => by dsimp only; rw [g6 hn, aW hn, aW hn, aW hn], fun h1 h2 => ⟨rfl, by dsimp only; rw [(g9 h2).1, aW h2]⟩⟩
end Go.Pv
set_option linter.unusedVariables false
set_option linter.unusedSimpArgs false
namespace Go.Pv
def frW (s : Stor) (l : List Wt) (i : Nat) : Wt := ⟨22 + (s.next + i), frOf (frAt s l i)⟩
def fws (s : Stor) (l : List Wt) (i j : Nat) : List Wt := (List.range' i j).map (frW s l)
theorem zV (s : Stor) (l : List Wt) (i j : Nat) : fws s l i (j + 1) = frW s l i :: fws s l (i + 1) j := by
  unfold fws; rw [List.range'_succ, List.map_cons]
theorem MZ (s : Stor) (l : List Wt) (i j : Nat) : fws s l i (j + 1) = fws s l i j ++ [frW s l (i + j)] := by
  unfold fws; rw [List.range'_concat, List.map_append, Nat.one_mul]; rfl
theorem qB {s : Stor} {l : List Wt} : ∀ (k i : Nat) (d : Dk), i + k = l.length → ∃ j, j ≤ k ∧ (aF s l k i d).1.cells = d.cells ∧ (aF s l k i d).1.waits = d.waits ++ fws s l i j ∧ (∀ w ∈ fws s l i j, w.text.size ≤ 1200) ∧
    ((aF s l k i d).2 = true → (aF s l k i d).1.left = 0 ∨ j = k) ∧ ((aF s l k i d).2 = false → j < k) ∧
    (d.left < 0 → (aF s l k i d).1.left = d.left) ∧ (-1 ≤ d.left → -1 ≤ (aF s l k i d).1.left) ∧ (-1 ≤ d.room → -1 ≤ (aF s l k i d).1.room) ∧ (d.room < 0 → (aF s l k i d).1.room = d.room)
  | 0, i, d, hi => ⟨0, Nat.le_refl _, rfl, by simp [aF, fws], by simp [fws], fun _ => .inr rfl, fun h => (by cases h), fun _ => rfl, fun h => h, fun h => h, fun _ => rfl⟩
  | k + 1, i, d, hi => by
    have e : aF s l (k + 1) i d = if (aO d (22 + (s.next + i)) (frOf (frAt s l i))).2 = true then aF s l k (i + 1) (aO d (22 + (s.next + i)) (frOf (frAt s l i))).1 else (d, false) := rfl
    by_cases hl : d.left = 0
    · rw [kY hl] at e
      dsimp only at e
      rw [if_pos rfl] at e
      have hz : ∀ (k i : Nat) (d : Dk), d.left = 0 → (aF s l k i d).1 = d := by
        intro k
        induction k with
        | zero => intro i d h; rfl
        | succ k ih =>
          intro i d h
          unfold aF
          rw [kY h]
          dsimp only
          rw [if_pos rfl]
          exact ih _ _ h
      have ht : ∀ (k i : Nat) (d : Dk), d.left = 0 → (aF s l k i d).2 = true := by
        intro k
        induction k with
        | zero => intro i d h; rfl
        | succ k ih =>
          intro i d h
          unfold aF
          rw [kY h]
          dsimp only
          rw [if_pos rfl]
          exact ih _ _ h
      rw [e]
      have e1 := hz k (i + 1) d hl
      refine ⟨0, Nat.zero_le _, by rw [e1], by rw [e1]; simp [fws], by simp [fws], fun _ => .inl (by rw [e1]; exact hl), fun h => (by rw [ht k (i + 1) d hl] at h; cases h), fun h => (by omega), fun h => by rw [e1]; exact h, fun h => by rw [e1]; exact h, fun h => by rw [e1]⟩
    · by_cases hr : wtOk ⟨22 + (s.next + i), frOf (frAt s l i)⟩ = false ∨ d.room = 0 ∨ 100 ≤ d.waits.length
      · rw [jY hl hr] at e
        dsimp only at e
        rw [if_neg (by simp)] at e
        rw [e]
        exact ⟨0, Nat.zero_le _, rfl, by simp [fws], by simp [fws], fun h => (by cases h), fun _ => Nat.succ_pos k, fun _ => rfl, fun h => h, fun h => h, fun _ => rfl⟩
      · rw [iD hl hr] at e
        dsimp only at e
        rw [if_pos rfl] at e
        obtain ⟨j, h1, h2, h3, h4, h5, h6, h7, h8, h9, h10⟩ := qB (s := s) (l := l) k (i + 1) ⟨d.cells, d.waits ++ [⟨22 + (s.next + i), frOf (frAt s l i)⟩], au d.room, au d.left⟩ (by omega)
        rw [e]
        dsimp only at h2 h3 h7 h8 h9 h10
        rw [not_or, not_or] at hr
        have hw : wtOk ⟨22 + (s.next + i), frOf (frAt s l i)⟩ = true := by simpa using hr.1
        unfold wtOk at hw
        rw [Bool.and_eq_true] at hw
        refine ⟨j + 1, by omega, h2, by rw [h3, zV, List.append_assoc]; rfl, fun w hw' => ?_, fun ht => ?_, fun hf => ?_, fun h => by rw [h7 (by rw [aW h]; exact h), aW h], fun h => h8 (bK h), fun h => h9 (bK h), fun h => by rw [h10 (by rw [aW h]; exact h), aW h]⟩
        · rw [zV] at hw'
          rcases List.mem_cons.1 hw' with rfl | hw'
          · exact of_decide_eq_true hw.2
          · exact h4 w hw'
        · rcases h5 ht with h | h
          · exact .inl h
          · exact .inr (by omega)
        · have := h6 hf; omega
theorem yN {s : Stor} {l : List Wt} {i j : Nat} {w : Wt} (h : w ∈ fws s l i j) : ∃ q, i ≤ q ∧ q < i + j ∧ w = frW s l q := by
  unfold fws at h
  obtain ⟨q, hq, rfl⟩ := List.mem_map.1 h
  rw [List.mem_range'_1] at hq
  exact ⟨q, hq.1, hq.2, rfl⟩
theorem OZ (s : Stor) (l : List Wt) (i j : Nat) : (fws s l i j).length = j := by unfold fws; simp
theorem CU {s : Stor} {l : List Wt} (h : 0 ≤ s.next) : ∀ (j i : Nat), ((fws s l i j).map fun w => w.cell.toNat).Nodup
  | 0, i => by simp [fws]
  | j + 1, i => by
    rw [zV, List.map_cons, List.nodup_cons]
    refine ⟨fun hm => ?_, CU h j (i + 1)⟩
    obtain ⟨w, hw, e⟩ := List.mem_map.1 hm
    obtain ⟨q, hq, _, rfl⟩ := yN hw
    unfold frW at e
    dsimp only at e
    omega
theorem rJ {s : Stor} {l : List Wt} (h : Good s) (hn : s.next + l.length ≤ 20) : ∀ j, j ≤ l.length → Wrote s l j (aj s.disk.cells (fws s l 0 j))
  | 0, _ => ⟨h.len, fun _ _ => rfl, fun m hm => by rw [if_neg (by omega)]; rfl⟩
  | j + 1, hj => by
    have ih := rJ h hn j (by omega)
    have hn0 := h.next
    have e : aj s.disk.cells (fws s l 0 (j + 1)) = (aj s.disk.cells (fws s l 0 j)).set (22 + (s.next.toNat + j)) (frOf (frAt s l j)) := by
      rw [MZ, Nat.zero_add]
      unfold aj
      rw [List.foldl_append]
      show List.set _ (22 + (s.next + (j : Int))).toNat _ = _
      rw [show (22 + (s.next + (j : Int))).toNat = 22 + (s.next.toNat + j) by omega]
      rfl
    rw [e]
    refine ⟨by rw [List.length_set]; exact ih.len, fun k hk => ?_, fun m hm => ?_⟩
    · rw [at_set, if_neg (by omega)]; exact ih.low k hk
    · rw [at_set, ih.len]
      by_cases e2 : m = s.next.toNat + j
      · subst e2
        rw [if_pos ⟨rfl, by omega⟩, if_pos (by omega), show s.next.toNat + j - s.next.toNat = j by omega]
      · rw [if_neg (by omega), ih.log m hm]
        by_cases e3 : s.next.toNat ≤ m ∧ m < s.next.toNat + j
        · rw [if_pos e3, if_pos (by omega)]
        · rw [if_neg e3, if_neg (by omega)]
theorem rM {c : List ByteArray} {ws : List Wt} (hc : ∀ k, (cellAt c k).size ≤ 1200) (hw : ∀ w ∈ ws, w.text.size ≤ 1200) (k : Nat) : (cellAt (aj c ws) k).size ≤ 1200 := by
  rcases Nat.lt_or_ge k c.length with hk | hk
  · rcases oJ (k := k) ws c hk with ⟨w, h1, _, e⟩ | ⟨_, e⟩
    · rw [e]; exact hw w h1
    · rw [e]; exact hc k
  · unfold cellAt
    rw [List.getD_eq_getElem?_getD, List.getElem?_eq_none (by rw [aQ]; omega)]
    exact Nat.zero_le _
inductive CommitDisk (s : Stor) (l : List Wt) (e : Dk) : Prop
  | wait (j : Nat) : j ≤ l.length → e.cells = s.disk.cells → e.waits = fws s l 0 j → (∀ w ∈ fws s l 0 j, w.text.size ≤ 1200) → CommitDisk s l e
  | put (j : Nat) : j ≤ l.length → e.cells = aj s.disk.cells (fws s l 0 j) → e.waits = [] → (∀ w ∈ fws s l 0 j, w.text.size ≤ 1200) → CommitDisk s l e
theorem iM {s : Stor} {l : List Wt} (h : Good s) (hrm : -1 ≤ s.disk.room) (hlf : -1 ≤ s.disk.left) :
    CommitDisk s l (ak s l).1.disk ∧ -1 ≤ (ak s l).1.disk.room ∧ -1 ≤ (ak s l).1.disk.left ∧
    ((ak s l).2 = 0 ∧ (ak s l).1 = ⟨⟨aj s.disk.cells (fws s l 0 l.length), [], (ak s l).1.disk.room, (ak s l).1.disk.left⟩, s.turn, s.tries + 1, s.next + l.length, aj s.pages l⟩ ∧ (∀ w ∈ fws s l 0 l.length, w.text.size ≤ 1200) ∨
     (ak s l).2 = 2 ∧ (∃ j, j < l.length ∧ (ak s l).1 = ⟨⟨aj s.disk.cells (fws s l 0 j), [], (ak s l).1.disk.room, (ak s l).1.disk.left⟩, s.turn, s.tries + 1, s.next, s.pages⟩ ∧ ∀ w ∈ fws s l 0 j, w.text.size ≤ 1200) ∧ ¬ (ak s l).1.disk.left = 0 ∨
     (ak s l).2 = 3 ∧ (ak s l).1 = ⟨(ak s l).1.disk, s.turn, s.tries, s.next, s.pages⟩ ∧ (ak s l).1.disk.left = 0) ∧
    (s.disk.left < 0 → (ak s l).1.disk.left = s.disk.left) := by
  obtain ⟨j, g0, g1, g2, g3, g4, g5, g6, g7, g8, g9⟩ := qB (s := s) (l := l) l.length 0 s.disk (Nat.zero_add _)
  rw [h.waits, List.nil_append] at g2
  have e0 : ak s l = if (aF s l l.length 0 s.disk).2 = true then endS s ⟨s.disk, s.turn, s.tries + 1, s.next + l.length, aj s.pages l⟩ (aV (aF s l l.length 0 s.disk).1) else bz s (aF s l l.length 0 s.disk).1 1 := rfl
  generalize aF s l l.length 0 s.disk = R at g1 g2 g4 g5 g6 g7 g8 g9 e0
  obtain ⟨⟨rc, rw', rr, rl⟩, rb⟩ := R
  dsimp only at g1 g2 g4 g5 g6 g7 g8 g9 e0
  subst g1 g2
  have es : ¬ rl = 0 → aV ⟨s.disk.cells, fws s l 0 j, rr, rl⟩ = ⟨aj s.disk.cells (fws s l 0 j), [], rr, au rl⟩ := fun hl => uH hl
  cases rb with
  | false =>
    rw [if_neg (by simp)] at e0
    have hj := g5 rfl
    by_cases hl : rl = 0
    · have e : ak s l = (⟨⟨s.disk.cells, fws s l 0 j, rr, rl⟩, s.turn, s.tries, s.next, s.pages⟩, 3) := by
        rw [e0]; unfold bz; rw [uG (d := ⟨s.disk.cells, fws s l 0 j, rr, rl⟩) hl, if_pos hl]; rfl
      rw [e]
      exact ⟨.wait j g0 rfl rfl g3, g8 hrm, g7 hlf, .inr (.inr ⟨rfl, rfl, hl⟩), g6⟩
    · by_cases hl2 : au rl = 0
      · have e : ak s l = (⟨⟨aj s.disk.cells (fws s l 0 j), [], rr, au rl⟩, s.turn, s.tries, s.next, s.pages⟩, 3) := by
          rw [e0]; unfold bz; rw [es hl, if_pos hl2]; rfl
        rw [e]
        exact ⟨.put j g0 rfl rfl g3, g8 hrm, bK (g7 hlf), .inr (.inr ⟨rfl, rfl, hl2⟩), fun hn => by dsimp only; rw [g6 hn, aW hn]⟩
      · have e : ak s l = (⟨⟨aj s.disk.cells (fws s l 0 j), [], rr, au rl⟩, s.turn, s.tries + 1, s.next, s.pages⟩, 2) := by
          rw [e0]; unfold bz; rw [es hl, if_neg hl2]
        rw [e]
        exact ⟨.put j g0 rfl rfl g3, g8 hrm, bK (g7 hlf), .inr (.inl ⟨rfl, ⟨j, hj, rfl, g3⟩, hl2⟩), fun hn => by dsimp only; rw [g6 hn, aW hn]⟩
  | true =>
    rw [if_pos rfl] at e0
    by_cases hl : rl = 0
    · have e : ak s l = (⟨⟨s.disk.cells, fws s l 0 j, rr, rl⟩, s.turn, s.tries, s.next, s.pages⟩, 3) := by
        rw [e0, uG (d := ⟨s.disk.cells, fws s l 0 j, rr, rl⟩) hl]
        unfold endS
        rw [if_pos hl]; rfl
      rw [e]
      exact ⟨.wait j g0 rfl rfl g3, g8 hrm, g7 hlf, .inr (.inr ⟨rfl, rfl, hl⟩), g6⟩
    · rw [es hl] at e0
      by_cases hl2 : au rl = 0
      · have e : ak s l = (⟨⟨aj s.disk.cells (fws s l 0 j), [], rr, au rl⟩, s.turn, s.tries, s.next, s.pages⟩, 3) := by
          rw [e0]; unfold endS; rw [if_pos hl2]; rfl
        rw [e]
        exact ⟨.put j g0 rfl rfl g3, g8 hrm, bK (g7 hlf), .inr (.inr ⟨rfl, rfl, hl2⟩), fun hn => by dsimp only; rw [g6 hn, aW hn]⟩
      · have hj : j = l.length := (g4 rfl).resolve_left hl
        subst hj
        have e : ak s l = (⟨⟨aj s.disk.cells (fws s l 0 l.length), [], rr, au rl⟩, s.turn, s.tries + 1, s.next + l.length, aj s.pages l⟩, 0) := by
          rw [e0]; unfold endS; rw [if_neg hl2]; rfl
        rw [e]
        exact ⟨.put _ g0 rfl rfl g3, g8 hrm, bK (g7 hlf), .inl ⟨rfl, rfl, g3⟩, fun hn => by dsimp only; rw [g6 hn, aW hn]⟩
theorem pM {s : Stor} {l : List Wt} (h : Good s) (hl : listOk l = true) (hn : s.next + l.length ≤ 20) (h99 : s.tries ≤ 98) (hrm : -1 ≤ s.disk.room) (hlf : -1 ≤ s.disk.left) (hc : (ak s l).2 ≠ 3) : Good (ak s l).1 := by
  obtain ⟨_, _, _, hcs, _⟩ := iM (l := l) h hrm hlf
  rcases hcs with ⟨_, e, hsm⟩ | ⟨_, ⟨j, hj, e, hsm⟩, _⟩ | ⟨e, _⟩
  · rw [e]
    exact zU h hl hn h99 (Nat.le_refl _) (rJ h hn _ (Nat.le_refl _)) (rM h.small hsm) (.inl ⟨rfl, rfl, rfl⟩)
  · rw [e]
    exact zU h hl hn h99 (by omega) (rJ h hn j (by omega)) (rM h.small hsm) (.inr ⟨hj, rfl, rfl⟩)
  · exact absurd e hc
end Go.Pv
set_option linter.unusedVariables false
set_option linter.unusedSimpArgs false
namespace Go.Pv
def bl (c : List ByteArray) (k : Nat) : List UInt8 := (cellAt c k).data.toList
structure HeadOk (T : Nat) (c : List ByteArray) : Prop where
  own : cellAt c (T % 2) = headB T
  other : HLay (T + 1) (bl c ((T + 1) % 2))
theorem oL (keep : Nat → Bool) (cut : Nat → Option (ByteArray → Nat)) {k : Nat} {J : ByteArray → Prop} : ∀ (ws : List Wt) (i : Nat) (c : List ByteArray), k < c.length → J (cellAt c k) → (∀ w ∈ ws, w.cell.toNat = k → ∀ x x', J x → Fell w.text x x' → J x') → J (cellAt (cu keep cut ws i c) k)
  | [], _, _, _, h, _ => h
  | w :: ws, i, c, hk, h, hw => by
    unfold cu
    have h1 := CQ keep cut (w := w) (i := i) (c := c) hk
    have hl : k < (if keep i = true then c.set w.cell.toNat w.text else match cut i with | some f => c.set w.cell.toNat (fA w.text (cellAt c w.cell.toNat) (min (f w.text) w.text.size)) | none => c).length := by
      split
      · rw [List.length_set]; exact hk
      · split
        · rw [List.length_set]; exact hk
        · exact hk
    generalize (if keep i = true then c.set w.cell.toNat w.text else match cut i with | some f => c.set w.cell.toNat (fA w.text (cellAt c w.cell.toNat) (min (f w.text) w.text.size)) | none => c) = c' at h1 hl ⊢
    refine oL keep cut ws (i + 1) c' hl ?_ (fun v hv => hw v (List.mem_cons_of_mem _ hv))
    rcases h1 with ⟨e, h1⟩ | h1
    · exact hw w (List.mem_cons_self ..) e _ _ h h1
    · rw [h1]; exact h
theorem jE (keep : Nat → Bool) (cut : Nat → Option (ByteArray → Nat)) {k : Nat} {ws : List Wt} {i : Nat} {c : List ByteArray} (hk : k < c.length) (hw : ∀ w ∈ ws, w.cell.toNat ≠ k) : cellAt (cu keep cut ws i c) k = cellAt c k :=
  oL keep cut (J := fun x => x = cellAt c k) ws i c hk rfl (fun w hw' e => absurd e (hw w hw'))
theorem at_out {c : List ByteArray} {k : Nat} (h : c.length ≤ k) : cellAt c k = ByteArray.empty := by
  unfold cellAt
  rw [List.getD_eq_getElem?_getD, List.getElem?_eq_none h]
  rfl
theorem zW {s : Stor} {c' : List ByteArray} {rm lf : Int} (h : Good s) (hl : c'.length = 42) (hlog : ∀ k, 22 ≤ k → cellAt c' k = cellAt s.disk.cells k)
    (hdt : ∀ q, q < 20 → cellAt c' (2 + q) = cellAt s.disk.cells (2 + q) ∨ cellAt s.disk.cells (2 + q) ≠ cellAt s.pages q ∨ cellAt c' (2 + q) = cellAt s.pages q) (hsm : ∀ k, (cellAt c' k).size ≤ 1200)
    (hh : max (aA (cellAt c' 0) 0) (aA (cellAt c' 1) 1) = s.turn) : Good ⟨⟨c', [], rm, lf⟩, s.turn, s.tries, s.next, s.pages⟩ := by
  obtain ⟨A, hA⟩ := h.read
  obtain ⟨ws, e, hr⟩ := hA.put
  have hg : gOf c' s.turn = gOf s.disk.cells s.turn := by
    funext n
    have := hlog (22 + n) (by omega)
    unfold cellAt at this
    unfold gOf
    rw [this]
  refine { len := hl, waits := rfl, small := hsm, turn := h.turn, tries := h.tries, next := h.next, heads := hh, late := ?_, read := ⟨A, ?_⟩, most := ?_, big := h.big }
  · intro m f hm hf hp hc
    refine h.late m f hm hf hp ?_
    exact (hlog (22 + m) (by omega)).symm.trans hc
  · dsimp only
    rw [hg]
    have := hr (ay c')
    rw [Gv (P := ay s.disk.cells) (by rw [bP hl, bP h.len]) (fun k hk => by
      rw [bP h.len] at hk
      rw [jk hl hk, jk h.len hk, ← e]
      exact hdt k hk), ← e] at this
    exact this
  · dsimp only
    rw [hg]
    exact h.most
theorem kP {s : ByteArray} {place : Int} (h : aA s place ≠ 0) : 1 ≤ aA s place ∧ aA s place ≤ 99999 ∧ (aA s place).tmod 2 = place ∧ headB (aA s place) = s := by
  unfold aA BN at h ⊢
  split at h
  · rename_i h1
    rw [if_pos h1]
    split at h
    · rename_i h2
      rw [if_pos h2]
      exact h2
    · exact absurd rfl h
  · exact absurd rfl h
theorem zX (n : Nat) : ((n : Int)).tmod 2 = ((n % 2 : Nat) : Int) := by
  rw [Int.tmod_eq_emod_of_nonneg (by omega)]; omega
theorem xB {c : List ByteArray} {T : Nat} (h1 : 1 ≤ T) (h2 : T ≤ 99999) (ho : cellAt c (T % 2) = headB T) : max (aA (cellAt c 0) 0) (aA (cellAt c 1) 1) = max (T : Int) (aA (cellAt c ((T + 1) % 2)) (((T + 1) % 2 : Nat) : Int)) := by
  have e := jC (n := (T : Int)) (by omega) (zX T)
  rcases Nat.mod_two_eq_zero_or_one T with hp | hp
  · have hq : (T + 1) % 2 = 1 := by omega
    rw [hp] at ho e
    rw [hq, ho]
    have : aA (headB T) 0 = T := e
    rw [this]; rfl
  · have hq : (T + 1) % 2 = 0 := by omega
    rw [hp] at ho e
    rw [hq, ho]
    have : aA (headB T) 1 = T := e
    rw [this]
    exact Int.max_comm _ _
theorem Gx {c : List ByteArray} {T : Nat} (hT : T + 1 ≤ 29) (ho : HLay (T + 1) (bl c ((T + 1) % 2))) : aA (cellAt c ((T + 1) % 2)) (((T + 1) % 2 : Nat) : Int) ≤ T + 1 := by
  by_cases hz : aA (cellAt c ((T + 1) % 2)) (((T + 1) % 2 : Nat) : Int) = 0
  · rw [hz]; omega
  · obtain ⟨a, b, _, e⟩ := kP hz
    unfold bl at ho
    generalize aA (cellAt c ((T + 1) % 2)) (((T + 1) % 2 : Nat) : Int) = m at a b e ⊢
    obtain ⟨m, rfl⟩ : ∃ k : Nat, m = k := ⟨m.toNat, by omega⟩
    rw [← e] at ho
    have := HLay.head (m := m) ho hT
    omega
structure FellTo (s : Stor) (T : Nat) (c' : List ByteArray) (s' : Stor) : Prop where
  good : Good s'
  disk : s'.disk = ⟨c', [], -1, -1⟩
  pages : s'.pages = s.pages
  heads : HeadOk s'.turn.toNat c'
  log : ∀ k, 22 ≤ k → cellAt c' k = cellAt s.disk.cells k
  turn : s'.turn = T ∧ s'.next = s.next ∧ s'.tries = s.tries ∨ s'.turn = T + 1 ∧ s'.next = 0 ∧ s'.tries = 0
theorem jF {s : Stor} {c : List ByteArray} (h : DataOk s c) {k : Nat} (hk : k < 2) : cellAt c k = cellAt s.disk.cells k := h.out k (.inl hk)
theorem Iz {s : Stor} {T : Nat} {c c' : List ByteArray} (h : Good s) (hT : s.turn = T) (hh : HeadOk T s.disk.cells) (hd : DataOk s c) (hl : c'.length = 42) (h0 : ∀ k, k < 2 ∨ 22 ≤ k → cellAt c' k = cellAt c k)
    (h1 : ∀ q, q < 20 → cellAt c' (2 + q) = cellAt c (2 + q) ∨ cellAt s.disk.cells (2 + q) ≠ cellAt s.pages q) (hsm : ∀ k, (cellAt c' k).size ≤ 1200) : FellTo s T c' ⟨⟨c', [], -1, -1⟩, s.turn, s.tries, s.next, s.pages⟩ := by
  have hdk : DataOk s c' := ⟨hl, fun k hk => by rw [h0 k hk]; exact hd.out k hk, fun q hq => by
    rcases h1 q hq with e | e
    · rw [e]; exact hd.data q hq
    · exact .inr (.inl e), hsm⟩
  refine ⟨rE h hdk, rfl, rfl, ?_, fun k hk => hdk.out k (.inr hk), .inl ⟨hT, rfl, rfl⟩⟩
  rw [show (⟨⟨c', [], -1, -1⟩, s.turn, s.tries, s.next, s.pages⟩ : Stor).turn.toNat = T by show s.turn.toNat = T; omega]
  refine ⟨?_, ?_⟩
  · rw [hdk.out _ (.inl (by omega))]; exact hh.own
  · unfold bl; rw [hdk.out _ (.inl (by omega))]; exact hh.other
theorem zY {s : Stor} {T : Nat} {c c' : List ByteArray} (h : Good s) (hT : s.turn = T) (hT29 : T + 1 ≤ 29) (hh : HeadOk T s.disk.cells) (hf : Full s c) (hl : c'.length = 42) (h0 : ∀ k, k ≠ (T + 1) % 2 → cellAt c' k = cellAt c k)
    (h1 : cellAt c' ((T + 1) % 2) = cellAt c ((T + 1) % 2) ∨ Fell (headB ((T + 1 : Nat) : Int)) (cellAt c ((T + 1) % 2)) (cellAt c' ((T + 1) % 2))) : ∃ s', FellTo s T c' s' := by
  have ht := h.turn
  have hs1 : ∀ k, (cellAt c' k).size ≤ 1200 := fun k => by
    by_cases e : k = (T + 1) % 2
    · subst e
      rcases h1 with e | e
      · rw [e]; exact hf.1.small _
      · refine oK e ?_ (hf.1.small _)
        have := bT ((T + 1 : Nat) : Int) (by omega) (by omega)
        unfold headB
        simp only [ByteArray.size_append, gK, List.size_toArray, List.length_cons, List.length_nil]
        omega
    · rw [h0 k e]; exact hf.1.small k
  have hlog : ∀ k, 22 ≤ k → cellAt c' k = cellAt s.disk.cells k := fun k hk => by rw [h0 k (by omega)]; exact hf.1.out k (.inr hk)
  have hown : cellAt c' (T % 2) = headB T := by rw [h0 _ (by omega), jF hf.1 (by omega)]; exact hh.own
  have hoth : HLay (T + 1) (bl c' ((T + 1) % 2)) := by
    have ho : HLay (T + 1) (bl c ((T + 1) % 2)) := by unfold bl; rw [jF hf.1 (by omega)]; exact hh.other
    unfold bl at ho ⊢
    rcases h1 with e | e | ⟨b, hb, e⟩
    · rw [e]; exact ho
    · rw [e]; exact HLay.whole (n := T + 1) (by omega) (Nat.le_refl _)
    · rw [e, gW]
      exact .mk _ (T + 1) b _ (T + 1) (by omega) (Nat.le_refl _) (Nat.le_refl _) hb ho
  have hdat : ∀ q, q < 20 → cellAt c' (2 + q) = cellAt s.pages q := fun q hq => by rw [h0 _ (by omega)]; exact hf.2 q hq
  have hle := Gx hT29 hoth
  have hmx := xB (by omega) (by omega) hown
  by_cases hm : aA (cellAt c' ((T + 1) % 2)) (((T + 1) % 2 : Nat) : Int) = T + 1
  · rw [hm] at hmx
    have e := (kP (s := cellAt c' ((T + 1) % 2)) (place := (((T + 1) % 2 : Nat) : Int)) (by omega)).2.2.2
    rw [hm] at e
    refine ⟨⟨⟨c', [], -1, -1⟩, s.turn + 1, 0, 0, s.pages⟩, rF h (by omega) hl (fun m hm => hlog _ (by omega)) hdat hs1 (by rw [hmx]; omega), rfl, rfl, ?_, hlog, .inr ⟨by dsimp only; omega, rfl, rfl⟩⟩
    rw [show (⟨⟨c', [], -1, -1⟩, s.turn + 1, 0, 0, s.pages⟩ : Stor).turn.toNat = T + 1 by show (s.turn + 1).toNat = T + 1; omega]
    refine ⟨e.symm, ?_⟩
    unfold bl
    rw [show (T + 1 + 1) % 2 = T % 2 by omega, hown]
    exact (HLay.whole (n := T) (by omega) (Nat.le_refl _)).up (by omega)
  · have hpar : aA (cellAt c' ((T + 1) % 2)) (((T + 1) % 2 : Nat) : Int) ≤ T := by omega
    refine ⟨⟨⟨c', [], -1, -1⟩, s.turn, s.tries, s.next, s.pages⟩, zW h hl hlog (fun q hq => .inr (.inr (hdat q hq))) hs1 (by rw [hmx]; omega), rfl, rfl, ?_, hlog, .inl ⟨hT, rfl, rfl⟩⟩
    rw [show (⟨⟨c', [], -1, -1⟩, s.turn, s.tries, s.next, s.pages⟩ : Stor).turn.toNat = T by show s.turn.toNat = T; omega]
    exact ⟨hown, hoth⟩
theorem pO {s : Stor} {T : Nat} (hT : s.turn = T) : (headW s).cell.toNat = (T + 1) % 2 ∧ (headW s).text = headB ((T + 1 : Nat) : Int) := by
  unfold headW
  have e : s.turn + 1 = ((T + 1 : Nat) : Int) := by omega
  rw [e, zX]
  exact ⟨by dsimp only; omega, rfl⟩
theorem uI {s : Stor} {T : Nat} {e : Dk} (h : Good s) (hT : s.turn = T) (hT29 : T + 1 ≤ 29) (hh : HeadOk T s.disk.cells) (hr : RestDisk s e) (keep : Nat → Bool) (cut : Nat → Option (ByteArray → Nat)) : ∃ s', FellTo s T (cu keep cut e.waits 0 e.cells) s' := by
  obtain ⟨hw1, hw2⟩ := pO hT
  cases hr with
  | data hd hw =>
    have hlen : (cu keep cut e.waits 0 e.cells).length = 42 := by rw [ik]; exact hd.len
    have hw0 : ∀ k, k < 2 ∨ 22 ≤ k → ∀ w ∈ e.waits, w.cell.toNat ≠ k := fun k hk w hw' => by
      obtain ⟨q, hq, rfl, _⟩ := hw.mem w hw'
      dsimp only
      omega
    refine ⟨_, Iz h hT hh hd hlen (fun k hk => ?_) (fun q hq => ?_) (fun k => ?_)⟩
    · rcases Nat.lt_or_ge k 42 with h42 | h42
      · exact jE keep cut (by rw [hd.len]; exact h42) (hw0 k hk)
      · rw [at_out (by omega), at_out (by rw [hd.len]; exact h42)]
    · by_cases ht : ∃ w ∈ e.waits, w.cell.toNat = 2 + q
      · obtain ⟨w, hw', e1⟩ := ht
        obtain ⟨q', hq', rfl, hne, _⟩ := hw.mem w hw'
        dsimp only at e1
        obtain rfl : q' = q := by omega
        exact .inr hne
      · exact .inl (jE keep cut (by rw [hd.len]; omega) (fun w hw' e1 => ht ⟨w, hw', e1⟩))
    · rcases Nat.lt_or_ge k 42 with h42 | h42
      · refine oL keep cut (J := fun x => x.size ≤ 1200) e.waits 0 e.cells (by rw [hd.len]; exact h42) (hd.small k) (fun w hw' _ x x' hx hf => oK hf ?_ hx)
        obtain ⟨_, _, _, _, hs⟩ := hw.mem w hw'
        exact hs
      · rw [at_out (by omega)]; exact Nat.zero_le _
  | head hf hw =>
    rw [hw]
    refine zY h hT hT29 hh hf (by rw [ik]; exact hf.1.len) (fun k hk => ?_) ?_
    · rcases Nat.lt_or_ge k 42 with h42 | h42
      · exact jE keep cut (by rw [hf.1.len]; exact h42) (fun w hw' => by rw [List.mem_singleton.1 hw', hw1]; exact fun e => hk e.symm)
      · rw [at_out (by rw [ik, hf.1.len]; exact h42), at_out (by rw [hf.1.len]; exact h42)]
    · rcases pK keep cut (k := (T + 1) % 2) [headW s] 0 e.cells (by rw [hf.1.len]; omega) (by simp) with e1 | ⟨w, hw', _, e1⟩
      · exact .inl e1
      · rw [List.mem_singleton.1 hw', hw2] at e1
        exact .inr e1
  | done c1 hf hc hw =>
    rw [hw, hc, hw1, hw2]
    refine zY h hT hT29 hh hf (by show (List.set ..).length = 42; rw [List.length_set]; exact hf.1.len) (fun k hk => ?_) (.inr (.inl ?_))
    · show cellAt (c1.set ..) k = _
      rw [at_set, if_neg (fun e => hk e.1.symm)]
    · show cellAt (c1.set ..) _ = _
      rw [at_set, if_pos ⟨rfl, by rw [hf.1.len]; omega⟩]
end Go.Pv
set_option linter.unusedVariables false
set_option linter.unusedSimpArgs false
namespace Go.Pv
open Go.Lib
def digN (p : Nat) : Nat := (itoa (p : Int)).length
theorem Jt {p : Nat} (h : p < 20) : digN p = 1 ∨ digN p = 2 := by
  unfold digN
  by_cases h9 : p ≤ 9
  · obtain ⟨c, e, _⟩ := x9 (n := (p : Int)) (by omega); rw [e]; exact .inl rfl
  · obtain ⟨c, d, e, _⟩ := tu (n := (p : Int)) (by omega); rw [e]; exact .inr rfl
structure Lay (c : Nat) (x : List UInt8) : Prop where
  zero : c = 0 → x = []
  one : c = 1 → One x
  two : c = 2 → Two x
theorem Lay.up {c : Nat} {x : List UInt8} (h : Lay c x) : Lay (c + 1) x :=
  ⟨fun e => by omega, fun e => by rw [h.zero (by omega)]; exact .nil, fun e => .one _ (h.one (by omega))⟩
theorem Lay.two_of {c : Nat} {x : List UInt8} (h : Lay c x) (hc : c ≤ 2) : Two x := by
  rcases c with _ | _ | _ | c
  · exact .one _ (by rw [h.zero rfl]; exact .nil)
  · exact .one _ (h.one rfl)
  · exact h.two rfl
  · omega
theorem Lay.tear {c b : Nat} {x : List UInt8} {f : Fr} (h : Lay c x) (hf : FrW f) (hb : b ≤ (fl f).length) : Lay (c + 1) (tear (fl f) b x) := by
  refine ⟨fun e => by omega, fun e => ?_, fun e => .mk f b x hf (h.one (by omega)) hb⟩
  rw [h.zero (by omega)]
  unfold Go.Pv.tear
  rw [List.drop_nil, List.append_nil]
  exact .mk f b hf hb
theorem Lay.whole {c : Nat} {f : Fr} (hf : FrW f) : Lay (c + 1) (fl f) := by
  have h1 : One (fl f) := by
    have := One.mk f (fl f).length hf (Nat.le_refl _)
    rwa [List.take_length] at this
  exact ⟨fun e => by omega, fun _ => h1, fun _ => .one _ h1⟩
def kC (t c : Nat) (cs : List ByteArray) : Prop := ∀ p, p < 20 → Inv t (digN p) (bl cs (22 + p)) ∧ Lay c (bl cs (22 + p))
theorem mM {t c : Nat} {cs cs' : List ByteArray} (h : kC t c cs) (e : ∀ k, 22 ≤ k → cellAt cs' k = cellAt cs k) : kC t c cs' := fun p hp => by
  have := h p hp
  unfold bl at this ⊢
  rw [e _ (by omega)]
  exact this
theorem Gy {t c : Nat} {T : Int} {cs : List ByteArray} (h : kC t c cs) (ht : t ≤ 19) (hT : (t : Int) ≤ T) : nV cs T := by
  intro n f hn hf hp hc
  have h1 := (h n hn).1
  have e : bl cs (22 + n) = fl f := by unfold bl fl cellAt; rw [hc]
  rw [e] at h1
  have := h1.frame ht hf (by unfold digN; rw [hp]) (Jt hn)
  omega
structure FrD (t p : Nat) (f : Fr) : Prop where
  ok : FrIn f
  turn : f.turn = t
  tries : f.tries ≤ 9
  place : f.place = p
  text : f.text.data.toList ∈ txL
theorem KN {f : Fr} {x x' : ByteArray} (h : Fell (frOf f) x x') : x'.data.toList = fl f ∨ ∃ b, b ≤ (fl f).length ∧ x'.data.toList = tear (fl f) b x.data.toList := by
  rcases h with rfl | ⟨b, hb, rfl⟩
  · exact .inl rfl
  · exact .inr ⟨b, hb, gW _ _ _⟩
theorem Na {t t0 c p : Nat} {f : Fr} {x x' : ByteArray} (hf : FrD t p f) (ht : t ≤ 19) (ht0 : t0 ≤ t) (hI : Inv t0 (digN p) x.data.toList) (hL : Lay c x.data.toList) (h : Fell (frOf f) x x') : Inv t (digN p) x'.data.toList ∧ Lay (c + 1) x'.data.toList := by
  have h1 := hf.ok.1
  have htu := hf.turn
  have hr := hf.ok.2.1
  have h9 := hf.tries
  have hp := hf.place
  have hc := hf.ok.2.2.2.1
  have hw : FrW f := ⟨hf.ok, by omega, hf.text⟩
  have hn : (itoa f.place).length = digN p := by unfold digN; rw [hp]
  rcases KN h with e | ⟨b, hb, e⟩
  · rw [e]
    exact ⟨Inv.whole ht htu (by omega) ⟨hr.1, h9⟩ (by omega) hn hc, Lay.whole hw⟩
  · rw [e]
    exact ⟨hI.tear ht0 ht htu (by omega) ⟨hr.1, h9⟩ (by omega) hn hc hb, hL.tear hw hb⟩
theorem KO {t c p : Nat} {f g : Fr} {x x' : ByteArray} (hf : FrD t p f) (ht : 20 ≤ t ∧ t ≤ 29) (hp20 : p < 20) (hI : Inv 19 (digN p) x.data.toList) (hL : Lay c x.data.toList) (hc : c ≤ 2) (h : Fell (frOf f) x x') (hg : FrIn g) (hgp : g.place = p) (e : x' = frOf g) : g.turn ≤ t := by
  have htu := hf.turn
  subst e
  have hn : (itoa g.place).length = digN p := by unfold digN; rw [hgp]
  rcases h with e | ⟨b, hb, e⟩
  · have := CP hg hf.ok e
    omega
  · have e2 : fl g = tear (fl f) b x.data.toList := by
      unfold fl
      rw [e, gW]
    have := OW hf.ok (by omega) hg hn (Jt hp20) hb hI (hL.two_of hc) e2
    omega
structure Cut (s : Stor) (l : List Wt) (c' : List ByteArray) : Prop where
  len : c'.length = 42
  low : ∀ k, k < 22 → cellAt c' k = cellAt s.disk.cells k
  log : ∀ m, m < 20 → cellAt c' (22 + m) = cellAt s.disk.cells (22 + m) ∨ ∃ q, q < l.length ∧ (m : Int) = s.next + q ∧ Fell (frOf (frAt s l q)) (cellAt s.disk.cells (22 + m)) (cellAt c' (22 + m))
  small : ∀ k, (cellAt c' k).size ≤ 1200
theorem pR {s : Stor} {l : List Wt} {e : Dk} (h : Good s) (hn : s.next + l.length ≤ 20) (hc : CommitDisk s l e) (keep : Nat → Bool) (cut : Nat → Option (ByteArray → Nat)) : Cut s l (cu keep cut e.waits 0 e.cells) := by
  have hn0 := h.next
  cases hc with
  | wait j hj hc hw hsm =>
    rw [hc, hw]
    have hlen : (cu keep cut (fws s l 0 j) 0 s.disk.cells).length = 42 := by rw [ik]; exact h.len
    refine ⟨hlen, fun k hk => ?_, fun m hm => ?_, fun k => ?_⟩
    · refine jE keep cut (by rw [h.len]; omega) fun w hw' => ?_
      obtain ⟨q, _, _, rfl⟩ := yN hw'
      unfold frW
      dsimp only
      omega
    · rcases pK keep cut (k := 22 + m) (fws s l 0 j) 0 s.disk.cells (by rw [h.len]; omega) (CU hn0 j 0) with e1 | ⟨w, hw', e1, e2⟩
      · exact .inl e1
      · obtain ⟨q, _, hq, rfl⟩ := yN hw'
        unfold frW at e1 e2
        dsimp only at e1 e2
        exact .inr ⟨q, by omega, by omega, e2⟩
    · rcases Nat.lt_or_ge k 42 with h42 | h42
      · exact oL keep cut (J := fun x => x.size ≤ 1200) _ 0 _ (by rw [h.len]; exact h42) (h.small k) (fun w hw' _ x x' hx hf => oK hf (hsm w hw') hx)
      · rw [at_out (by omega)]; exact Nat.zero_le _
  | put j hj hc hw hsm =>
    rw [hc, hw]
    have hwr := rJ h hn j hj
    refine ⟨hwr.len, fun k hk => hwr.low k hk, fun m hm => ?_, rM h.small hsm⟩
    have := hwr.log m hm
    split at this
    · exact .inr ⟨m - s.next.toNat, by omega, by omega, .inl this⟩
    · exact .inl this
theorem CV {g : Nat → Int × Bool × Wt} {a : Int} (hg : ∀ n, (g n).2.2.text.size ≤ 1100) : ∀ (k n : Nat) (own : Int) (out : List Wt), (∀ w ∈ out, w.text.size ≤ 1100) → ∀ w ∈ (aY g a k n own out).2.2, w.text.size ≤ 1100
  | 0, n, own, out, _ => by simp [aY]
  | k + 1, n, own, out, h => by
    have h' : ∀ w ∈ out ++ [(g n).2.2], w.text.size ≤ 1100 := fun w hw => by
      rcases List.mem_append.1 hw with hw | hw
      · exact h w hw
      · rw [List.mem_singleton.1 hw]; exact hg n
    unfold aY
    split
    · simp
    · split
      · exact h'
      · exact CV hg k (n + 1) (g n).1 _ h'
theorem Rd.big {g : Nat → Int × Bool × Wt} {n N : Nat} {a A : Int} {P Q : List ByteArray} (h : Rd g n a P N A Q) (hg : ∀ n, (g n).2.2.text.size ≤ 1100) (hP : gQ P = false) : gQ Q = false := by
  induction h with
  | stop => exact hP
  | more n a P N A Q h0 h1 ih => exact ih (yc hP (CV hg _ _ _ _ (by simp)))
theorem KP (c : List ByteArray) (T : Int) (n : Nat) : (gOf c T n).2.2.text.size ≤ 1100 := by
  unfold gOf fK getL
  split
  · simp [wt0]
  · split
    · simp [wt0]
    · split
      · simp [wt0]
      · dsimp only
        rw [ByteArray.size_extract]
        omega
structure Fallen (T : Nat) (c' : List ByteArray) (s1 : Stor) : Prop where
  good : Good s1
  disk : s1.disk = ⟨c', [], -1, -1⟩
  turn : s1.turn = T
  heads : HeadOk T c'
theorem zZ {s : Stor} {l : List Wt} {c' : List ByteArray} {T : Nat} (h : Good s) (hT : s.turn = T) (hh : HeadOk T s.disk.cells) (hc : Cut s l c') (hnl : nV c' T) : ∃ s1, Fallen T c' s1 := by
  obtain ⟨A, hA⟩ := h.read
  have ht := h.turn
  have hN := hA.top (Nat.zero_le _)
  have hn0 := h.next
  have hg : ∀ m, m < s.next.toNat → gOf c' s.turn m = gOf s.disk.cells s.turn m := fun m hm => by
    rcases hc.log m (by omega) with e | ⟨q, _, e, _⟩
    · unfold cellAt at e
      unfold gOf
      rw [e]
    · omega
  have hpg : ay c' = ay s.disk.cells := rD (by rw [bP hc.len, bP h.len]) fun k hk => by
    rw [bP hc.len] at hk
    rw [jk hc.len hk, jk h.len hk, hc.low _ (by omega)]
  obtain ⟨A2, hA2⟩ := MV (g := gOf c' s.turn) 21 s.next.toNat A s.pages (by omega) hN
  have hR := hA.same (g' := gOf c' s.turn) hg hA2
  have hbig := hA2.big (KP c' s.turn) h.big
  have hheads : max (aA (cellAt c' 0) 0) (aA (cellAt c' 1) 1) = s.turn := by
    rw [hc.low 0 (by omega), hc.low 1 (by omega)]; exact h.heads
  generalize rdGo (gOf c' s.turn) 21 s.next.toNat A s.pages = R at hA2 hR hbig
  obtain ⟨N2, Q2⟩ := R
  dsimp only at hA2 hR hbig
  have htr : ∀ m, m < 20 → (gOf c' s.turn m).1 ≤ trL (gOf c' s.turn) 20 := Ef (Int.le_refl _)
  have htb := uu (gOf c' s.turn) (o5 c' s.turn) 20
  refine ⟨⟨⟨c', [], -1, -1⟩, s.turn, trL (gOf c' s.turn) 20, N2, Q2⟩, ⟨hc.len, rfl, hc.small, h.turn, htb, by dsimp only; omega, hheads, by dsimp only; rw [hT]; exact hnl, ⟨A2, ?_⟩, htr, hbig⟩, rfl, hT, ⟨by rw [hc.low _ (by omega)]; exact hh.own, by unfold bl; rw [hc.low _ (by omega)]; exact hh.other⟩⟩
  dsimp only
  rw [hpg, Int.toNat_natCast]
  exact hR
theorem Ei {s : Stor} {l : List Wt} {c' : List ByteArray} {T t0 c : Nat} (h : Good s) (hT : s.turn = T) (hl : listOk l = true) (hn : s.next + l.length ≤ 20) (h9 : s.tries + 1 ≤ 9) (htx : ∀ i, i < l.length → (l.getD i wt0).text.data.toList ∈ txL) (hc : Cut s l c') (hlog : kC t0 c s.disk.cells) (ht0 : t0 ≤ T) (h19 : t0 ≤ 19) (hcase : T ≤ 19 ∨ T ≤ 29 ∧ c ≤ 2) :
    nV c' T ∧ (T ≤ 19 → kC T (c + 1) c') := by
  have hfd : ∀ q, q < l.length → ∀ m : Nat, (m : Int) = s.next + q → FrD T m (frAt s l q) := fun q hq m hm => ⟨Eh h hl hn (by omega) hq, hT, h9, hm.symm, htx q hq⟩
  have key : T ≤ 19 → kC T (c + 1) c' := fun hT19 p hp => by
    have hp1 := hlog p hp
    rcases hc.log p hp with e | ⟨q, hq, e, hf⟩
    · unfold bl at hp1 ⊢
      rw [e]
      exact ⟨hp1.1.up ht0, hp1.2.up⟩
    · exact Na (hfd q hq p e) hT19 ht0 hp1.1 hp1.2 hf
  refine ⟨?_, key⟩
  rcases Nat.lt_or_ge 19 T with hT19 | hT19
  · intro n g hn' hg hgp hgc
    have hp1 := hlog n hn'
    have hc2 : T ≤ 29 ∧ c ≤ 2 := by omega
    rcases hc.log n hn' with e | ⟨q, hq, e, hf⟩
    · have h1 := Gy hlog h19 (Int.le_refl _) n g hn' hg hgp (e.symm.trans hgc)
      omega
    · exact KO (hfd q hq n e) (by omega) hn' (hp1.1.up h19) hp1.2 hc2.2 hf hg hgp hgc
  · exact Gy (key hT19) hT19 (Int.le_refl _)
end Go.Pv
