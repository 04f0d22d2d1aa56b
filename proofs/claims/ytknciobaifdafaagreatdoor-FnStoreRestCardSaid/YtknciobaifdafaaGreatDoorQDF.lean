/- The draws of the store, part 15: heads torn over drawn texts; a fall in a rest, whatever the turn. -/
import Derived.Test.YtknciobaifdafaaGreatDoorQDC
set_option linter.unusedVariables false
set_option linter.unusedSimpArgs false
namespace Go.Pv
open Go.Lib
theorem Qo : ∀ x ∈ txL, x.length % 2 = 1 → x.length ≤ 5 := by decide
theorem Nh : ∀ x ∈ txL, x.length = 5 → x[3]? = some 49 ∨ x[3]? = some 50 := by decide
theorem Nj {a b : Nat} (h : a < b) (hb : b ≤ 99999) : (itoa (a : Int)).length ≤ 2 * (itoa (b : Int)).length + 1 := by
  have h1 : 1 ≤ (itoa (b : Int)).length := List.length_pos_iff.2 (yL (b : Int) (by omega))
  rcases Nat.lt_or_ge b 100 with h100 | h100
  · have : (itoa (a : Int)).length ≤ 2 := by
      rw [jg (by omega), Int.toNat_natCast]
      exact yH 1 a (by omega)
    omega
  · have h3 := CO (n := (b : Int)) (by omega)
    have : (itoa (a : Int)).length ≤ 5 := by
      rw [jg (by omega), Int.toNat_natCast]
      exact yH 4 a (by omega)
    omega
theorem O1 {N : Nat} (h2 : 2 ≤ N) (h9 : N ≤ 99999) {x : ByteArray} (hx : x.data.toList ∈ txL) {b : Nat} (hb : b ≤ (headB N).size) {place : Int} : aA (fA (headB N) x b) place ≤ N := by
  by_cases hz : aA (fA (headB N) x b) place = 0
  · rw [hz]; omega
  · obtain ⟨m1, m2, _, e⟩ := kP hz
    generalize aA (fA (headB N) x b) place = m at m1 m2 e ⊢
    obtain ⟨m, rfl⟩ : ∃ k : Nat, m = k := ⟨m.toNat, by omega⟩
    have e2 : hl m = tear (hl N) b x.data.toList := by
      have e1 : (headB (m : Int)).data.toList = (fA (headB (N : Int)) x b).data.toList := by rw [e]
      rw [gW] at e1
      exact e1
    have hb' : b ≤ (hl N).length := by rw [show (hl N).length = (headB N).size from mD _]; exact hb
    rcases Nat.lt_or_ge N m with hlt | hge
    · exfalso
      have hd := Nj (a := N) (b := m) hlt (by omega)
      by_cases hc : (itoa (N : Int)).length + 2 ≤ b
      · have e3 : (hl N).take b = 72 :: (itoa N ++ 46 :: ((itoa (N : Int) ++ [59]).take (b - ((itoa (N : Int)).length + 2)))) := by
          rw [Gu]
          obtain ⟨k, rfl⟩ : ∃ k, b = (itoa (N : Int)).length + 2 + k := ⟨b - ((itoa (N : Int)).length + 2), by omega⟩
          rw [show (itoa (N : Int)).length + 2 + k = (itoa (N : Int)).length + (k + 1) + 1 by omega, List.take_succ_cons, List.take_append, List.take_of_length_le (by omega), show (itoa (N : Int)).length + (k + 1) - (itoa (N : Int)).length = k + 1 by omega, List.take_succ_cons, show (itoa (N : Int)).length + (k + 1) + 1 - ((itoa (N : Int)).length + 2) = k by omega]
        unfold tear at e2
        rw [e3, Gu, List.cons_append, List.append_assoc, List.cons_append, List.cons.injEq] at e2
        have := (uB (aP (by omega) (.inl (by decide))) (aP (by omega) (.inl (by decide))) e2.2).1
        have := qA (by omega) (by omega) this
        omega
      · have hlen := congrArg List.length e2
        rw [MW] at hlen
        unfold tear at hlen
        rw [List.length_append, List.length_take, List.length_drop, Nat.min_eq_left hb'] at hlen
        have hl5 := Qo _ hx (by omega)
        have hm9 : m ≤ 9 := by
          rcases Nat.lt_or_ge 9 m with h | h
          · exfalso
            have h2 : 2 ≤ (itoa (m : Int)).length := by
              by_cases h99 : m ≤ 99
              · obtain ⟨c, d, e, _⟩ := tu (n := (m : Int)) (by omega)
                rw [e]; exact Nat.le_refl _
              · have := CO (n := (m : Int)) (by omega)
                omega
            omega
          · exact h
        obtain ⟨c, ec, hc9⟩ := hl1 hm9
        have h1 : 1 ≤ (itoa (m : Int)).length := by
          have := yL (m : Int) (by omega)
          exact List.length_pos_iff.2 this
        have h3 : (hl m)[3]? = (tear (hl N) b x.data.toList)[3]? := by rw [← e2]
        rw [lF hb', if_neg (by
          obtain ⟨d, ed, _⟩ := x9 (n := (N : Int)) (by omega)
          rw [ed] at hc
          simp only [List.length_cons, List.length_nil] at hc
          omega), ec] at h3
        have ht := Nh _ hx (by omega)
        simp only [List.getElem?_cons_succ, List.getElem?_cons_zero] at h3
        rw [← h3] at ht
        have e49 : (49 : UInt8).toNat = 49 := by decide
        have e50 : (50 : UInt8).toNat = 50 := by decide
        rcases ht with ht | ht <;> (have := Option.some.inj ht; subst this; omega)
    · omega
structure HSafe (T : Nat) (c : List ByteArray) : Prop where
  own : cellAt c (T % 2) = headB T
  other : aA (cellAt c ((T + 1) % 2)) (((T + 1) % 2 : Nat) : Int) ≤ T + 1
  torn : ∀ b, b ≤ (headB ((T + 1 : Nat) : Int)).size → aA (fA (headB ((T + 1 : Nat) : Int)) (cellAt c ((T + 1) % 2)) b) (((T + 1) % 2 : Nat) : Int) ≤ T + 1
theorem HeadOk.safe {T : Nat} {c : List ByteArray} (h : HeadOk T c) (hT : T + 1 ≤ 29) : HSafe T c := by
  refine ⟨h.own, Gx hT h.other, fun b hb => ?_⟩
  have h1 : HLay (T + 1) (fA (headB ((T + 1 : Nat) : Int)) (cellAt c ((T + 1) % 2)) b).data.toList := by
    rw [gW]
    exact .mk _ (T + 1) b _ (T + 1) (by omega) (Nat.le_refl _) (Nat.le_refl _) (by rw [show (hl (T + 1)).length = (headB ((T + 1 : Nat) : Int)).size from mD _]; exact hb) h.other
  generalize fA (headB ((T + 1 : Nat) : Int)) (cellAt c ((T + 1) % 2)) b = x at h1 ⊢
  by_cases hz : aA x (((T + 1) % 2 : Nat) : Int) = 0
  · rw [hz]; omega
  · obtain ⟨a, b, _, e⟩ := kP hz
    generalize aA x (((T + 1) % 2 : Nat) : Int) = m at a b e ⊢
    obtain ⟨m, rfl⟩ : ∃ k : Nat, m = k := ⟨m.toNat, by omega⟩
    rw [← e] at h1
    have := HLay.head (m := m) h1 hT
    omega
theorem HSafe.of_tx {T : Nat} {c : List ByteArray} (h1 : 1 ≤ T) (h9 : T + 1 ≤ 99999) (ho : cellAt c (T % 2) = headB T) (hle : aA (cellAt c ((T + 1) % 2)) (((T + 1) % 2 : Nat) : Int) ≤ T + 1) (hx : (cellAt c ((T + 1) % 2)).data.toList ∈ txL) : HSafe T c :=
  ⟨ho, hle, fun b hb => by have := O1 (N := T + 1) (by omega) h9 hx hb (place := (((T + 1) % 2 : Nat) : Int)); omega⟩
theorem C9 {s : Stor} {T : Nat} {c c' : List ByteArray} (h : Good s) (hT : s.turn = T) (hT9 : T + 1 ≤ 99999) (hh : HSafe T s.disk.cells) (hf : Full s c) (hl : c'.length = 42) (h0 : ∀ k, k ≠ (T + 1) % 2 → cellAt c' k = cellAt c k)
    (h1 : cellAt c' ((T + 1) % 2) = cellAt c ((T + 1) % 2) ∨ Fell (headB ((T + 1 : Nat) : Int)) (cellAt c ((T + 1) % 2)) (cellAt c' ((T + 1) % 2))) : ∃ s', Good s' ∧ s'.disk = ⟨c', [], -1, -1⟩ ∧ s'.pages = s.pages := by
  have ht := h.turn
  have hs1 : ∀ k, (cellAt c' k).size ≤ 1200 := fun k => by
    by_cases e : k = (T + 1) % 2
    · subst e
      rcases h1 with e | e
      · rw [e]; exact hf.1.small _
      · exact oK e (kR (by omega) (by omega)) (hf.1.small _)
    · rw [h0 k e]; exact hf.1.small k
  have hlog : ∀ k, 22 ≤ k → cellAt c' k = cellAt s.disk.cells k := fun k hk => by rw [h0 k (by omega)]; exact hf.1.out k (.inr hk)
  have hown : cellAt c' (T % 2) = headB T := by rw [h0 _ (by omega), jF hf.1 (by omega)]; exact hh.own
  have hle : aA (cellAt c' ((T + 1) % 2)) (((T + 1) % 2 : Nat) : Int) ≤ T + 1 := by
    have e0 := jF hf.1 (k := (T + 1) % 2) (by omega)
    rcases h1 with e | e | ⟨b, hb, e⟩
    · rw [e, e0]; exact hh.other
    · rw [e, jC (n := ((T + 1 : Nat) : Int)) (by omega) (zX _)]; omega
    · rw [e, e0]; exact hh.torn b hb
  have hdat : ∀ q, q < 20 → cellAt c' (2 + q) = cellAt s.pages q := fun q hq => by rw [h0 _ (by omega)]; exact hf.2 q hq
  have hmx := xB (by omega) (by omega) hown
  by_cases hm : aA (cellAt c' ((T + 1) % 2)) (((T + 1) % 2 : Nat) : Int) = T + 1
  · rw [hm] at hmx
    exact ⟨⟨⟨c', [], -1, -1⟩, s.turn + 1, 0, 0, s.pages⟩, rF h (by omega) hl (fun m hm => hlog _ (by omega)) hdat hs1 (by rw [hmx]; omega), rfl, rfl⟩
  · have hpar : aA (cellAt c' ((T + 1) % 2)) (((T + 1) % 2 : Nat) : Int) ≤ T := by omega
    exact ⟨⟨⟨c', [], -1, -1⟩, s.turn, s.tries, s.next, s.pages⟩, zW h hl hlog (fun q hq => .inr (.inr (hdat q hq))) hs1 (by rw [hmx]; omega), rfl, rfl⟩
theorem KU {s : Stor} {T : Nat} {e : Dk} (h : Good s) (hT : s.turn = T) (hT9 : T + 1 ≤ 99999) (hh : HSafe T s.disk.cells) (hr : RestDisk s e) (keep : Nat → Bool) (cut : Nat → Option (ByteArray → Nat)) : ∃ s', Good s' ∧ s'.disk = ⟨cu keep cut e.waits 0 e.cells, [], -1, -1⟩ ∧ s'.pages = s.pages := by
  obtain ⟨hw1, hw2⟩ := pO hT
  cases hr with
  | data hd hw =>
    have hlen : (cu keep cut e.waits 0 e.cells).length = 42 := by rw [ik]; exact hd.len
    have hw0 : ∀ k, k < 2 ∨ 22 ≤ k → ∀ w ∈ e.waits, w.cell.toNat ≠ k := fun k hk w hw' => by
      obtain ⟨q, hq, rfl, _⟩ := hw.mem w hw'
      dsimp only
      omega
    have hsm : ∀ k, (cellAt (cu keep cut e.waits 0 e.cells) k).size ≤ 1200 := fun k => by
      rcases Nat.lt_or_ge k 42 with h42 | h42
      · refine oL keep cut (J := fun x => x.size ≤ 1200) e.waits 0 e.cells (by rw [hd.len]; exact h42) (hd.small k) (fun w hw' _ x x' hx hf => oK hf ?_ hx)
        obtain ⟨_, _, _, _, hs⟩ := hw.mem w hw'
        exact hs
      · rw [at_out (by omega)]; exact Nat.zero_le _
    refine ⟨_, rE (rm := -1) (lf := -1) h ⟨hlen, fun k hk => ?_, fun q hq => ?_, hsm⟩, rfl, rfl⟩
    · rcases Nat.lt_or_ge k 42 with h42 | h42
      · rw [jE keep cut (by rw [hd.len]; exact h42) (hw0 k hk)]; exact hd.out k hk
      · rw [at_out (by omega), at_out (by rw [h.len]; exact h42)]
    · by_cases ht : ∃ w ∈ e.waits, w.cell.toNat = 2 + q
      · obtain ⟨w, hw', e1⟩ := ht
        obtain ⟨q', hq', rfl, hne, _⟩ := hw.mem w hw'
        dsimp only at e1
        obtain rfl : q' = q := by omega
        exact .inr (.inl hne)
      · rw [jE keep cut (by rw [hd.len]; omega) (fun w hw' e1 => ht ⟨w, hw', e1⟩)]; exact hd.data q hq
  | head hf hw =>
    rw [hw]
    refine C9 h hT hT9 hh hf (by rw [ik]; exact hf.1.len) (fun k hk => ?_) ?_
    · rcases Nat.lt_or_ge k 42 with h42 | h42
      · exact jE keep cut (by rw [hf.1.len]; exact h42) (fun w hw' => by rw [List.mem_singleton.1 hw', hw1]; exact fun e => hk e.symm)
      · rw [at_out (by rw [ik, hf.1.len]; exact h42), at_out (by rw [hf.1.len]; exact h42)]
    · rcases pK keep cut (k := (T + 1) % 2) [headW s] 0 e.cells (by rw [hf.1.len]; omega) (by simp) with e1 | ⟨w, hw', _, e1⟩
      · exact .inl e1
      · rw [List.mem_singleton.1 hw', hw2] at e1
        exact .inr e1
  | done c1 hf hc hw =>
    rw [hw, hc, hw1, hw2]
    refine C9 h hT hT9 hh hf (by show (List.set ..).length = 42; rw [List.length_set]; exact hf.1.len) (fun k hk => ?_) (.inr (.inl ?_))
    · show cellAt (c1.set ..) k = _
      rw [at_set, if_neg (fun e => hk e.1.symm)]
    · show cellAt (c1.set ..) _ = _
      rw [at_set, if_pos ⟨rfl, by rw [hf.1.len]; omega⟩]
end Go.Pv
set_option linter.unusedVariables false
set_option linter.unusedSimpArgs false
namespace Go.Pv
open Go.Lib
theorem Ej {d : Dk} {s : Stor} (h : ai d = (s, true)) : s.disk = d ∧ ag s = true := by
  unfold ai at h
  split at h
  · rename_i hk
    have h2 : (dN d).2 = true := by rw [h]
    obtain ⟨T, _, _, _, _, e1, e2, e3, _⟩ := zQ h2
    rw [h] at e1 e2 e3
    dsimp only at e1 e2 e3
    have ht := uu (gOf d.cells T) (o5 d.cells T) 20
    refine ⟨e1, ?_⟩
    unfold ag
    rw [e1, h]
    exact decide_eq_true ⟨hk.1, hk.2, by omega, by omega, rfl, rfl, rfl, Int.le_refl _, rfl⟩
  · cases h
theorem O3 {d : Dk} {s : Stor} (h : ai d = (s, false)) : s = bU := by
  unfold ai at h
  split at h
  · unfold dN iC at h
    split at h
    · exact (congrArg Prod.fst h).symm
    · split at h
      · exact (congrArg Prod.fst h).symm
      · cases h
  · exact (congrArg Prod.fst h).symm
theorem qF {s : Stor} (h : ag s = true) (h0 : (fM (ag s) s).2 = 0) : ag (fM (ag s) s).1 = true ∧ (fM (ag s) s).1.pages = s.pages ∧ (fM (ag s) s).1.turn = s.turn + 1 ∧ (fM (ag s) s).1.next = 0 ∧ (fM (ag s) s).1.tries = 0 ∧ (fM (ag s) s).1.disk.waits = [] ∧ s.turn < 99999 ∧ ∀ q, q < 20 → cellAt (fM (ag s) s).1.disk.cells (2 + q) = cellAt s.pages q := by
  have g := bG h
  obtain ⟨hr, hl⟩ : -1 ≤ s.disk.room ∧ -1 ≤ s.disk.left := by
    unfold ag at h
    have := (of_decide_eq_true h).1
    unfold dkOk at this
    simp only [Bool.and_eq_true, decide_eq_true_eq] at this
    omega
  rw [h] at h0 ⊢
  unfold fM at h0 ⊢
  rw [if_pos rfl] at h0 ⊢
  have ht := g.turn
  have h9 : s.turn < 99999 := by
    rcases Int.lt_or_le s.turn 99999 with h | h
    · exact h
    · exfalso
      unfold ah at h0
      rw [if_pos (by omega)] at h0
      exact absurd h0 (by show ¬ (4 : Int) = 0; decide)
  obtain ⟨_, a1, a2, hcs, _⟩ := dQ g h9 hr hl
  rcases hcs with ⟨_, ⟨c1, hf, hc, hw⟩, hs⟩ | ⟨h2, _⟩ | ⟨h2, _⟩
  · generalize ah s = R at a1 a2 hc hw hs h0 ⊢
    obtain ⟨⟨⟨rc, rw', rr, rl⟩, rt, rtr, rn, rp⟩, rb⟩ := R
    dsimp only at a1 a2 hc hw hs h0 ⊢
    simp only [Stor.mk.injEq, true_and] at hs
    obtain ⟨q1, q2, q3, q4⟩ := hs
    subst hc hw q1 q2 q3 q4
    have hhw := wE g
    have hT : s.turn = ((s.turn.toNat : Nat) : Int) := by omega
    obtain ⟨hw1, hw2⟩ := pO hT
    have hdat : ∀ q, q < 20 → cellAt (c1.set (headW s).cell.toNat (headW s).text) (2 + q) = cellAt s.pages q := fun q hq => by
      rw [at_set, if_neg (fun e => by have := e.1; omega)]
      exact hf.2 q hq
    refine ⟨?_, rfl, rfl, rfl, rfl, rfl, h9, hdat⟩
    refine gV (rF g h9 (by rw [List.length_set]; exact hf.1.len) (fun m hm => ?_) hdat (fun k => ?_) ?_) a1 a2
    · rw [at_set, if_neg (fun e => by have := e.1; omega)]
      exact hf.1.out _ (.inr (by omega))
    · rw [at_set]
      split
      · exact hhw.2.2
      · exact hf.1.small k
    · have hh := g.heads
      have e0 := jF hf.1 (k := 0) (by omega)
      have e1 := jF hf.1 (k := 1) (by omega)
      rw [hw1, hw2, at_set, at_set, hf.1.len, e0, e1]
      have tn := jC (n := ((s.turn.toNat + 1 : Nat) : Int)) (by omega) (zX _)
      rcases Nat.mod_two_eq_zero_or_one (s.turn.toNat + 1) with hp | hp
      · rw [hp] at tn ⊢
        rw [if_pos ⟨rfl, by omega⟩, if_neg (fun e => by have := e.1; omega)]
        have : aA (headB ((s.turn.toNat + 1 : Nat) : Int)) 0 = ((s.turn.toNat + 1 : Nat) : Int) := tn
        rw [this]
        omega
      · rw [hp] at tn ⊢
        rw [if_neg (fun e => by have := e.1; omega), if_pos ⟨rfl, by omega⟩]
        have : aA (headB ((s.turn.toNat + 1 : Nat) : Int)) 1 = ((s.turn.toNat + 1 : Nat) : Int) := tn
        rw [this]
        omega
  · omega
  · omega
theorem Df {s : Stor} (h : ag s = true) : (fM (ag s) s).1.pages = s.pages := by
  have g := bG h
  rw [h]
  unfold fM
  rw [if_pos rfl]
  by_cases h9 : s.turn < 99999
  · obtain ⟨hr, hl⟩ : -1 ≤ s.disk.room ∧ -1 ≤ s.disk.left := by
      unfold ag at h
      have := (of_decide_eq_true h).1
      unfold dkOk at this
      simp only [Bool.and_eq_true, decide_eq_true_eq] at this
      omega
    obtain ⟨_, _, _, hcs, _⟩ := dQ g h9 hr hl
    rcases hcs with ⟨_, _, hs⟩ | ⟨_, _, _, hs, _⟩ | ⟨_, hs, _⟩ <;> rw [hs]
  · have ht := g.turn
    unfold ah
    rw [if_pos (by omega)]
theorem KW (s : Stor) (h : ag s = true) : (ah s).2 ≠ 1 := by
  have g := bG h
  by_cases h9 : s.turn < 99999
  · obtain ⟨hr, hl⟩ : -1 ≤ s.disk.room ∧ -1 ≤ s.disk.left := by
      unfold ag at h
      have := (of_decide_eq_true h).1
      unfold dkOk at this
      simp only [Bool.and_eq_true, decide_eq_true_eq] at this
      omega
    obtain ⟨_, _, _, hcs, _⟩ := dQ g h9 hr hl
    rcases hcs with ⟨e, _⟩ | ⟨e, _⟩ | ⟨e, _⟩ <;> rw [e] <;> decide
  · have ht := g.turn
    unfold ah
    rw [if_pos (by omega)]
    show ¬ (4 : Int) = 1
    decide
theorem gm {s : Stor} (h : ag s = true) : fM (ag s) s = ah s := by rw [h]; exact if_pos rfl
theorem wJ {s : Stor} (h : ag s = true) : ∃ s', ai s.disk = (s', true) ∧ s'.pages = s.pages ∧ s'.turn = s.turn := by
  unfold ag at h
  obtain ⟨h1, h2, h3, h4, h5, h6, h7, h8, h9⟩ := of_decide_eq_true h
  refine ⟨(dN s.disk).1, ?_, h9, h6⟩
  unfold ai
  rw [if_pos ⟨h1, h2⟩]
  exact Prod.ext rfl h5
theorem Nk {d : Dk} {s : Stor} (h : dn (ai d) = (s, 0)) : ∃ was, ai d = (was, true) ∧ s.pages = was.pages ∧ s.turn = was.turn + 1 ∧ 0 ≤ was.turn ∧ was.turn ≤ 99999 ∧ (dn (ai s.disk)).2 ≠ 1 ∧ ((dn (ai s.disk)).2 = 0 → (dn (ai s.disk)).1.pages = s.pages) := by
  obtain ⟨⟨was, k⟩, hR⟩ : ∃ R, R = ai d := ⟨_, rfl⟩
  rw [← hR] at h ⊢
  unfold dn at h
  cases k with
  | false => exact absurd (congrArg Prod.snd h) (by show ¬ (1 : Int) = 0; decide)
  | true =>
    rw [if_pos rfl] at h
    obtain ⟨e1, e2⟩ := Ej hR.symm
    have hg := (bG e2).turn
    have hrest : (ah was).2 = 0 ∧ (ah was).1 = s := by
      unfold nD at h
      split at h
      · rename_i h0
        exact ⟨h0, congrArg Prod.fst h⟩
      · rename_i h0
        exact absurd (congrArg Prod.snd h) h0
    have hl := qF e2 (by rw [gm e2]; exact hrest.1)
    rw [gm e2, hrest.2] at hl
    obtain ⟨l1, l2, l3, _⟩ := hl
    obtain ⟨s', r1, r2, r3⟩ := wJ l1
    obtain ⟨_, o2⟩ := Ej r1
    refine ⟨was, rfl, l2, l3, by omega, hg.2, ?_, ?_⟩
    · rw [r1]
      unfold dn
      rw [if_pos rfl]
      unfold nD
      split
      · exact (by decide : ¬ (0 : Int) = 1)
      · exact KW s' o2
    · rw [r1]
      unfold dn
      rw [if_pos rfl]
      unfold nD
      split
      · intro _
        have := Df o2
        rw [gm o2] at this
        dsimp only
        rw [this, r2]
      · rename_i h0
        intro h1
        exact absurd h1 h0
end Go.Pv
