/- The draws of the store, part 18: a commit that was refused, and again with room: what the law of FnStoreFull says, in plain Lean. -/
import Derived.Test.YtknciobaifdafaaGreatDoorQDH
set_option linter.unusedVariables false
set_option linter.unusedSimpArgs false
namespace Go.Pv
open Go.Lib
theorem mV {n : Int} (k : Nat) (h0 : 0 ≤ n) (h1 : n < 10 ^ (k + 1)) : (itoa n).length ≤ k + 1 := by
  rw [jg h0]
  refine yH k _ ?_
  have : (n.toNat : Int) < (10 ^ (k + 1) : Nat) := by rw [Int.toNat_of_nonneg h0]; exact_mod_cast h1
  exact_mod_cast this
theorem I7 {f : Fr} (h : FrIn f) (hs : f.text.size ≤ 1100) : (frOf f).size ≤ 1200 := by
  obtain ⟨h1, h2, h3, h4, h5⟩ := h
  have e := zN f
  have e2 : (fl f).length = (frOf f).size := mD (frOf f)
  have a1 := mV 4 (n := f.turn) (by omega) (by omega)
  have a2 := mV 4 (n := f.tries) (by omega) (by omega)
  have a3 := mV 4 (n := f.place) (by omega) (by omega)
  have a4 := mV 4 (n := f.cell) (by omega) (by omega)
  have a5 := mV 4 (n := (f.text.size : Int)) (by omega) (by omega)
  have a6 : (gJ f.last).data.toList.length ≤ 1 := by cases f.last <;> decide
  have a7 : (hdrL f).length ≤ 25 := by
    unfold hdrL
    simp only [List.length_append, List.length_cons]
    omega
  omega
theorem wV {s : Stor} {l : List Wt} (h : Good s) (hl : listOk l = true) (hn : s.next + l.length ≤ 20) (h99 : s.tries ≤ 98) : ∀ (k i : Nat) (d : Dk), i + k = l.length → d.left < 0 → d.room < 0 → d.waits.length + k ≤ 100 → (aF s l k i d).2 = true
  | 0, i, d, _, _, _, _ => rfl
  | k + 1, i, d, hi, h1, h2, h3 => by
    have e : aF s l (k + 1) i d = if (aO d (22 + (s.next + i)) (frOf (frAt s l i))).2 = true then aF s l k (i + 1) (aO d (22 + (s.next + i)) (frOf (frAt s l i))).1 else (d, false) := rfl
    have hin := Eh h hl hn h99 (i := i) (by omega)
    have hsz := I7 hin (fE hl (k := i) (by omega)).2.2
    have h0 := h.next
    have hw : wtOk ⟨22 + (s.next + i), frOf (frAt s l i)⟩ = true := by
      unfold wtOk
      rw [Bool.and_eq_true]
      exact ⟨decide_eq_true (by dsimp only; omega), decide_eq_true hsz⟩
    rw [iD (by omega) (by rw [hw, not_or, not_or]; exact ⟨by decide, by omega, by omega⟩)] at e
    dsimp only at e
    rw [if_pos rfl] at e
    rw [e]
    exact wV h hl hn h99 k (i + 1) _ (by omega) (by dsimp only; rw [aW h1]; exact h1) (by dsimp only; rw [aW h2]; exact h2) (by dsimp only; rw [List.length_append, List.length_singleton]; omega)
theorem wW {s : Stor} {l : List Wt} (h : Good s) (hl : listOk l = true) (hn : s.next + l.length ≤ 20) (h99 : s.tries ≤ 98) (h1 : s.disk.left < 0) (h2 : s.disk.room < 0) : (ak s l).2 = 0 := by
  have hk := bW hl
  have ht := wV h hl hn h99 l.length 0 s.disk (Nat.zero_add _) h1 h2 (by rw [h.waits, List.length_nil]; omega)
  obtain ⟨j, _, _, _, _, _, _, g6, _⟩ := qB (s := s) (l := l) l.length 0 s.disk (Nat.zero_add _)
  have g := g6 h1
  unfold ak
  rw [if_pos ht]
  generalize (aF s l l.length 0 s.disk).1 = d at g
  unfold endS
  have : ¬ (aV d).left = 0 := by
    rw [uH (by omega)]
    dsimp only
    rw [aW (by omega)]
    omega
  rw [if_neg this]
theorem He {s : Stor} {l : List Wt} (hk : ag s = true) (hl : listOk l = true) (h1 : s.disk.left < 0) (h2 : s.disk.room < 0) : (aG (ag s) s l).2 = 0 ∨ (aG (ag s) s l).2 = 4 := by
  have g := bG hk
  have hlen := bW hl
  rw [hk]
  unfold aG
  rw [if_pos rfl, if_pos hl]
  unfold bQ
  split
  · rename_i hA
    exact .inl (wW g hl hA.1 (by omega) h1 h2)
  · by_cases h9 : s.turn < 99999
    · obtain ⟨hr, hlf⟩ := sF hk
      obtain ⟨_, _, _, _, b1, b2⟩ := dQ g h9 hr hlf
      obtain ⟨c0, c1⟩ := b2 h1 h2
      have c2 := b1 h1
      rw [if_pos c0]
      have hr := qF hk (by rw [gm hk]; exact c0)
      rw [gm hk] at hr
      obtain ⟨r1, r2, r3, r4, r5, _⟩ := hr
      exact .inl (wW (bG r1) hl (by omega) (by omega) (by omega) (by omega))
    · have ht := g.turn
      have e : ah s = (s, 4) := by unfold ah; rw [if_pos (by omega)]
      rw [e]
      exact .inr rfl
theorem yC {s : Stor} {l : List Wt} (h : ag s = true) (hl : listOk l = true) (hn : s.next + l.length ≤ 20) (h99 : s.tries ≤ 98) (h2 : (ak s l).2 = 2) : ag (ak s l).1 = true := by
  have g := bG h
  obtain ⟨hr, hlf⟩ := sF h
  obtain ⟨_, a1, a2, _⟩ := iM (l := l) g hr hlf
  exact gV (pM g hl hn h99 hr hlf (by rw [h2]; decide)) a1 a2
theorem I8 {s : Stor} {l : List Wt} (h : (aG (ag s) s l).2 = 2) : ag s = true ∧ listOk l = true ∧ ag (aG (ag s) s l).1 = true := by
  cases hk : ag s with
  | false => rw [hk] at h; exact absurd h (by unfold aG; rw [if_neg (by simp)]; show ¬ (1 : Int) = 2; decide)
  | true =>
    rw [hk] at h
    unfold aG at h ⊢
    rw [if_pos rfl] at h ⊢
    cases hl : listOk l with
    | false => rw [hl, if_neg (by simp)] at h; exact absurd h (by show ¬ (1 : Int) = 2; decide)
    | true =>
      rw [hl, if_pos rfl] at h
      rw [if_pos rfl]
      refine ⟨rfl, rfl, ?_⟩
      have hlen := bW hl
      have g := bG hk
      obtain ⟨hr, hlf⟩ := sF hk
      unfold bQ at h ⊢
      split
      · rename_i hA
        rw [if_pos hA] at h
        exact yC hk hl hA.1 (by omega) h
      · rename_i hA
        rw [if_neg hA] at h
        split
        · rename_i h0
          rw [if_pos h0] at h
          have hr := qF hk (by rw [gm hk]; exact h0)
          rw [gm hk] at hr
          obtain ⟨r1, r2, r3, r4, r5, _⟩ := hr
          exact yC r1 hl (by omega) (by omega) h
        · rename_i h0
          rw [if_neg h0] at h
          by_cases h9 : s.turn < 99999
          · obtain ⟨_, a1, a2, hcs, _⟩ := dQ g h9 hr hlf
            rcases hcs with ⟨e, _⟩ | ⟨_, hd, hw, e, _⟩ | ⟨e, _⟩
            · exact absurd e h0
            · have := rE (rm := (ah s).1.disk.room) (lf := (ah s).1.disk.left) g hd
              rw [e]
              refine gV ?_ a1 a2
              generalize ah s = R at hd hw e this
              obtain ⟨⟨⟨rc, rw', rr, rl⟩, rt, rtr, rn, rp⟩, rb⟩ := R
              dsimp only at hw this ⊢
              subst hw
              exact this
            · omega
          · have ht := g.turn
            unfold ah at h
            rw [if_pos (by omega)] at h
            exact absurd h (by show ¬ (4 : Int) = 2; decide)
theorem NU {s x : Stor} {l : List Wt} (h : aG (ag s) s l = (x, 2)) : ag x = true ∧ listOk l = true ∧ x.pages = s.pages ∧ (x.turn = s.turn ∨ x.turn = s.turn + 1) ∧ ag ⟨⟨x.disk.cells, x.disk.waits, -1, -1⟩, x.turn, x.tries, x.next, x.pages⟩ = true ∧
    ((aG true ⟨⟨x.disk.cells, x.disk.waits, -1, -1⟩, x.turn, x.tries, x.next, x.pages⟩ l).2 = 4 ∨ (aG true ⟨⟨x.disk.cells, x.disk.waits, -1, -1⟩, x.turn, x.tries, x.next, x.pages⟩ l).2 = 0 ∧ (aG true ⟨⟨x.disk.cells, x.disk.waits, -1, -1⟩, x.turn, x.tries, x.next, x.pages⟩ l).1.pages = aj s.pages l) := by
  have hc := I8 (s := s) (l := l) (by rw [h])
  have hn := A7 (s := s) (l := l) hc.1 (by rw [h]; show ¬ (2 : Int) = 0; decide)
  rw [h] at hc hn
  dsimp only at hc hn
  obtain ⟨_, hl, hx⟩ := hc
  have g := gV ((bG hx).lim (-1) (-1)) (by dsimp only; decide) (by dsimp only; decide)
  refine ⟨hx, hl, hn.1, hn.2, g, ?_⟩
  have hf := He g hl (by dsimp only; decide) (by dsimp only; decide)
  obtain ⟨⟨y, k⟩, hR⟩ : ∃ R, R = aG (ag (⟨⟨x.disk.cells, x.disk.waits, -1, -1⟩, x.turn, x.tries, x.next, x.pages⟩ : Stor)) ⟨⟨x.disk.cells, x.disk.waits, -1, -1⟩, x.turn, x.tries, x.next, x.pages⟩ l := ⟨_, rfl⟩
  rw [← hR] at hf
  have hR2 := hR
  rw [g] at hR2
  rw [← hR2]
  dsimp only at hf ⊢
  rcases hf with e | e
  · subst e
    obtain ⟨_, _, _, e2, _⟩ := qg hR.symm
    refine .inr ⟨rfl, ?_⟩
    rw [e2]
    dsimp only
    rw [hn.1]
  · exact .inl e
end Go.Pv
