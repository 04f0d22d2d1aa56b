/- The draws of the store, part 19: a fall in a rest of a drawn store: what the law of FnStoreRestCrash says, in plain Lean. -/
import Derived.Test.YtknciobaifdafaaGreatDoorQGN
import Derived.Test.YtknciobaifdafaaGreatDoorQDF
set_option linter.unusedVariables false
set_option linter.unusedSimpArgs false
namespace Go.Pv
open Go.Lib
theorem NV {s : Stor} {T : Nat} (g : Good s) (hT : s.turn = T) : cellAt s.disk.cells (T % 2) = headB T ∧ aA (cellAt s.disk.cells ((T + 1) % 2)) (((T + 1) % 2 : Nat) : Int) ≤ T := by
  have ht := g.turn
  have hm := g.heads
  rw [hT] at hm ht
  have k0 : aA (cellAt s.disk.cells 0) 0 ≠ 0 → (aA (cellAt s.disk.cells 0) 0).tmod 2 = 0 ∧ headB (aA (cellAt s.disk.cells 0) 0) = cellAt s.disk.cells 0 := fun h => (kP h).2.2
  have k1 : aA (cellAt s.disk.cells 1) 1 ≠ 0 → (aA (cellAt s.disk.cells 1) 1).tmod 2 = 1 ∧ headB (aA (cellAt s.disk.cells 1) 1) = cellAt s.disk.cells 1 := fun h => (kP h).2.2
  have hp := zX T
  rcases Nat.mod_two_eq_zero_or_one T with h2 | h2
  · rw [h2, show (T + 1) % 2 = 1 by omega]
    rw [h2] at hp
    have e : aA (cellAt s.disk.cells 0) 0 = T := by
      rcases Int.le_total (aA (cellAt s.disk.cells 0) 0) (aA (cellAt s.disk.cells 1) 1) with h | h
      · rw [Int.max_eq_right h] at hm
        have := (k1 (by rw [hm]; omega)).1
        rw [hm, hp] at this
        exact absurd this (by decide)
      · rw [Int.max_eq_left h] at hm; exact hm
    refine ⟨?_, ?_⟩
    · rw [← (k0 (by rw [e]; omega)).2, e]
    · show aA (cellAt s.disk.cells 1) 1 ≤ T
      omega
  · rw [h2, show (T + 1) % 2 = 0 by omega]
    rw [h2] at hp
    have e : aA (cellAt s.disk.cells 1) 1 = T := by
      rcases Int.le_total (aA (cellAt s.disk.cells 0) 0) (aA (cellAt s.disk.cells 1) 1) with h | h
      · rw [Int.max_eq_right h] at hm; exact hm
      · rw [Int.max_eq_left h] at hm
        have := (k0 (by rw [hm]; omega)).1
        rw [hm, hp] at this
        exact absurd this (by decide)
    refine ⟨?_, ?_⟩
    · rw [← (k1 (by rw [e]; omega)).2, e]
    · show aA (cellAt s.disk.cells 0) 0 ≤ T
      omega
def nN (T : Nat) (c : List ByteArray) : Prop := TxB (cellAt c ((T + 1) % 2)) ∨ T + 1 ≤ 29 ∧ HLay (T + 1) (bl c ((T + 1) % 2))
theorem I9 {s : Stor} {T : Nat} (g : Good s) (hT : s.turn = T) (h9 : T + 1 ≤ 99999) (h : nN T s.disk.cells) : HSafe T s.disk.cells := by
  obtain ⟨h1, h2⟩ := NV g hT
  have ht := g.turn
  rcases h with h | ⟨h29, h⟩
  · exact HSafe.of_tx (by omega) h9 h1 (by omega) h.1
  · exact HeadOk.safe ⟨h1, h⟩ h29
theorem Ls {X P R : List ByteArray} {k : Nat} (h : 2 ≤ X.length) (h2 : k < 2) : cellAt (X.take 2 ++ P ++ R) k = cellAt X k := by
  unfold cellAt
  rw [List.getD_eq_getElem?_getD, List.getD_eq_getElem?_getD, List.append_assoc, List.getElem?_append_left (by rw [List.length_take]; omega), List.getElem?_take, if_pos h2]
theorem yD {t : Int} {c : List ByteArray} (h : Nw t c) {T : Nat} (hT : t = T) : nN T c := by
  rcases h with ⟨T', h1, h2, h3⟩ | ⟨ht, s, g, rfl⟩
  · obtain rfl : T' = T := by omega
    exact .inr ⟨by omega, h3.other⟩
  · refine .inl ?_
    have hlen := g.len
    have hp := zX T
    have e : cellAt (jb s t) ((T + 1) % 2) = ByteArray.empty := by
      unfold jb
      rw [hT, hp, Ls (by rw [List.length_set, List.length_set, List.length_set]; omega) (by omega)]
      rw [at_set, if_neg (by omega), at_set]
      split
      · rfl
      · rename_i h1
        rw [List.length_set] at h1
        rw [at_set, if_pos (by omega)]
    rw [e]
    exact Du
theorem Lt {b : List Int} {p : Nat} (hb : ∀ q, q ≤ 1000000 → RdOk b q) (hp : p + 1000 ≤ 1000000) {s : Stor} (hc : s.disk.cells = (aX b p).1.disk.cells) (ht : s.turn = (aX b p).1.turn) (g : Good s) {T : Nat} (hT : s.turn = T) : nN T s.disk.cells := by
  obtain ⟨g1, g2⟩ := oO (b := b) (p := p) hb (by omega)
  obtain ⟨t0, gg⟩ := g1.good
  have hhd := gg.heads
  have gh := g1.heads
  have gtx := (oM (b := b) (p := (fD b p).2 + 2) (hb _ (by omega)))
  have gd := qI (b := b) (p := (fD b p).2 + 1) hb (by omega)
  have hs := g.heads
  have hlen := g.len
  have hsm := g.small
  unfold aX at hc ht
  dsimp only at hhd
  generalize fD b p = S at gh hhd hc ht gtx gd
  have same : s.disk.cells = S.1.disk.cells → nN T s.disk.cells := fun e => by
    rw [e] at hs
    rw [e]
    exact yD gh (by omega)
  unfold xJ at hc ht
  split at hc
  · exact same hc
  split at hc
  · exact same hc
  split at hc
  · exact same hc
  split at hc
  · exact same hc
  split at hc
  · obtain ⟨_, _, d1, _, _, d2⟩ := gd
    dsimp only at hc
    unfold cO uS at hc
    have tx : s.disk.cells = (fO b (S.2 + 1)).1.cells → nN T s.disk.cells := fun e => by
      rw [e]
      exact .inl (d2 _)
    split at hc
    · dsimp only at hc
      rw [hc, List.length_drop, d1] at hlen
      omega
    split at hc
    · exact tx hc
    split at hc
    · exact tx hc
    split at hc
    · exfalso
      dsimp only at hc
      have := hsm 0
      rw [hc, at_set, if_pos ⟨rfl, by omega⟩, rY] at this
      exact absurd this (by decide)
    split at hc
    · exact tx hc
    split at hc
    · exact tx hc
    · exact tx hc
  split at hc
  · rename_i n0 n1 n2 n3 n4 n5
    rw [if_neg n0, if_neg n1, if_neg n2, if_neg n3, if_neg n4, if_pos n5] at ht
    dsimp only at hc ht
    have ho := yD gh (T := T) (by omega)
    unfold nN at ho ⊢
    unfold bl at ho ⊢
    rw [hc, at_set]
    split
    · exact .inl gtx
    · exact ho
  · exact same hc
theorem Bh {s : Stor} (hk : ag s = true) {T : Nat} (hT : s.turn = T) (ho : nN T s.disk.cells) {mask cut bytes : Int} (hm : 0 ≤ mask) : ∃ y, ai (dH (ah s).1.disk mask cut bytes) = (y, true) ∧ y.pages = s.pages := by
  have g := bG hk
  have ht := g.turn
  obtain ⟨hr, hl⟩ : -1 ≤ s.disk.room ∧ -1 ≤ s.disk.left := by
    unfold ag at hk
    have := (of_decide_eq_true hk).1
    unfold dkOk at this
    simp only [Bool.and_eq_true, decide_eq_true_eq] at this
    omega
  by_cases h9 : s.turn < 99999
  · obtain ⟨a0, a1, a2, _⟩ := dQ g h9 hr hl
    have hd := rP g a0 a1 a2
    rw [iZ hd hm]
    obtain ⟨s', g', e1, e2⟩ := KU g hT (by omega) (I9 g hT (by omega) ho) a0 (dK mask) (gz cut bytes)
    have hok := gV g' (by rw [e1]; exact Int.le_refl _) (by rw [e1]; exact Int.le_refl _)
    obtain ⟨y, y1, y2, _⟩ := wJ hok
    rw [e1] at y1
    exact ⟨y, y1, by rw [y2, e2]⟩
  · have e : ah s = (s, 4) := by unfold ah; rw [if_pos (by omega)]
    rw [e]
    have hd : dkOk s.disk = true := by
      unfold ag at hk
      exact (of_decide_eq_true hk).1
    dsimp only
    rw [iZ hd hm, g.waits]
    have hok := gV (g.lim (-1) (-1)) (by dsimp only; decide) (by dsimp only; decide)
    obtain ⟨y, y1, y2, _⟩ := wJ hok
    dsimp only at y1 y2
    rw [g.waits] at y1
    exact ⟨y, y1, y2⟩
end Go.Pv
