/- The draws of the store, part 17: what the laws of commits say, in plain Lean. -/
import Derived.Test.YtknciobaifdafaaGreatDoorQDF
set_option linter.unusedVariables false
set_option linter.unusedSimpArgs false
namespace Go.Pv
open Go.Lib
theorem sF {s : Stor} (h : ag s = true) : -1 ≤ s.disk.room ∧ -1 ≤ s.disk.left := by
  unfold ag at h
  have := (of_decide_eq_true h).1
  unfold dkOk at this
  simp only [Bool.and_eq_true, decide_eq_true_eq] at this
  omega
theorem yx {s : Stor} {l : List Wt} (h : ag s = true) (hl : listOk l = true) (hn : s.next + l.length ≤ 20) (h99 : s.tries ≤ 98) (h0 : (ak s l).2 = 0) : ag (ak s l).1 = true ∧ (ak s l).1.pages = aj s.pages l ∧ (ak s l).1.turn = s.turn := by
  have g := bG h
  obtain ⟨hr, hlf⟩ := sF h
  obtain ⟨_, a1, a2, hc, _⟩ := iM (l := l) g hr hlf
  have gg := pM g hl hn h99 hr hlf (by rw [h0]; decide)
  refine ⟨gV gg a1 a2, ?_⟩
  rcases hc with ⟨_, e, _⟩ | ⟨e, _⟩ | ⟨e, _⟩
  · rw [e]; exact ⟨rfl, rfl⟩
  · omega
  · omega
theorem yz {s : Stor} {l : List Wt} (h : ag s = true) (h0 : (ak s l).2 ≠ 0) : (ak s l).1.pages = s.pages ∧ (ak s l).1.turn = s.turn := by
  have g := bG h
  obtain ⟨hr, hlf⟩ := sF h
  obtain ⟨_, _, _, hc, _⟩ := iM (l := l) g hr hlf
  rcases hc with ⟨e, _⟩ | ⟨_, ⟨j, _, e, _⟩, _⟩ | ⟨_, e, _⟩
  · exact absurd e h0
  · rw [e]; exact ⟨rfl, rfl⟩
  · rw [e]; exact ⟨rfl, rfl⟩
theorem qg {s x : Stor} {l : List Wt} (h : aG (ag s) s l = (x, 0)) : ag s = true ∧ listOk l = true ∧ ag x = true ∧ x.pages = aj s.pages l ∧ (x.turn = s.turn ∨ x.turn = s.turn + 1) := by
  cases hk : ag s with
  | false =>
    rw [hk] at h
    unfold aG at h
    rw [if_neg (by simp)] at h
    exact absurd (congrArg Prod.snd h) (by show ¬ (1 : Int) = 0; decide)
  | true =>
    rw [hk] at h
    unfold aG at h
    rw [if_pos rfl] at h
    cases hl : listOk l with
    | false =>
      rw [hl, if_neg (by simp)] at h
      exact absurd (congrArg Prod.snd h) (by show ¬ (1 : Int) = 0; decide)
    | true =>
      rw [hl, if_pos rfl] at h
      refine ⟨rfl, rfl, ?_⟩
      have hlen := bW hl
      unfold bQ at h
      split at h
      · rename_i hA
        obtain ⟨a, b, c⟩ := yx hk hl hA.1 (by omega) (by rw [h])
        rw [h] at a b c
        exact ⟨a, b, .inl c⟩
      · split at h
        · rename_i h0
          have hr := qF hk (by rw [gm hk]; exact h0)
          rw [gm hk] at hr
          obtain ⟨r1, r2, r3, r4, r5, _⟩ := hr
          obtain ⟨a, b, c⟩ := yx r1 hl (by omega) (by omega) (by rw [h])
          rw [h] at a b c
          exact ⟨a, by rw [b, r2], .inr (by rw [c, r3])⟩
        · rename_i h0
          exact absurd (congrArg Prod.snd h) h0
theorem A7 {s : Stor} {l : List Wt} (hk : ag s = true) (h : (aG (ag s) s l).2 ≠ 0) : (aG (ag s) s l).1.pages = s.pages ∧ ((aG (ag s) s l).1.turn = s.turn ∨ (aG (ag s) s l).1.turn = s.turn + 1) := by
  rw [hk] at h ⊢
  unfold aG at h ⊢
  rw [if_pos rfl] at h ⊢
  cases hl : listOk l with
  | false => rw [if_neg (by simp)]; exact ⟨rfl, .inl rfl⟩
  | true =>
    rw [hl, if_pos rfl] at h
    rw [if_pos rfl]
    unfold bQ at h ⊢
    split
    · rename_i hA
      rw [if_pos hA] at h
      have := yz hk h
      exact ⟨this.1, .inl this.2⟩
    · rename_i hA
      rw [if_neg hA] at h
      split
      · rename_i h0
        rw [if_pos h0] at h
        have hr := qF hk (by rw [gm hk]; exact h0)
        rw [gm hk] at hr
        obtain ⟨r1, r2, r3, _⟩ := hr
        have := yz r1 h
        exact ⟨by rw [this.1, r2], .inr (by rw [this.2, r3])⟩
      · rename_i h0
        have g := bG hk
        have hs := Df hk
        rw [gm hk] at hs
        refine ⟨hs, .inl ?_⟩
        by_cases h9 : s.turn < 99999
        · obtain ⟨hr, hlf⟩ := sF hk
          obtain ⟨_, _, _, hcs, _⟩ := dQ g h9 hr hlf
          rcases hcs with ⟨e, _⟩ | ⟨_, _, _, e, _⟩ | ⟨_, e, _⟩
          · exact absurd e h0
          · rw [e]
          · rw [e]
        · have ht := g.turn
          unfold ah
          rw [if_pos (by omega)]
end Go.Pv
