/- What the store's commits do, with no program in sight. -/
import Derived.Test.YtknciobaifdafaaGreatDoorQY4
set_option linter.unusedVariables false
set_option linter.unusedSimpArgs false
namespace Go.Pv
/-- The page at a place of a list is not to be written: no page, too long, or not above the one ahead. -/
def badAt (l : List Wt) (k : Nat) : Bool :=
  decide (¬ (0 ≤ (l.getD k wt0).cell ∧ (l.getD k wt0).cell ≤ 19)) || decide (1100 < (l.getD k wt0).text.size) || (decide (0 < k) && decide ((l.getD k wt0).cell ≤ (l.getD (k - 1) wt0).cell))
def listOk (l : List Wt) : Bool := !anyTo (badAt l) l.length && decide (1 ≤ l.length ∧ l.length ≤ 20)
/-- The frames of a list are written, from place i of it on, k of them. -/
def commitW (s : Stor) (l : List Wt) : Nat → Nat → Dk → Dk × Bool
  | 0, _, d => (d, true)
  | k + 1, i, d =>
    if (writeD d (22 + (s.next + i)) (frameB s.turn (s.tries + 1) (s.next + i) (l.getD i wt0).cell (decide (i + 1 = l.length)) (l.getD i wt0).text)).2 = true then
      commitW s l k (i + 1) (writeD d (22 + (s.next + i)) (frameB s.turn (s.tries + 1) (s.next + i) (l.getD i wt0).cell (decide (i + 1 = l.length)) (l.getD i wt0).text)).1
    else (d, false)
def commitS (s : Stor) (l : List Wt) : Stor × Int :=
  if (commitW s l l.length 0 s.disk).2 = true then endS s ⟨s.disk, s.turn, s.tries + 1, s.next + l.length, putPs s.pages l⟩ (syncD (commitW s l l.length 0 s.disk).1)
  else refusedS s (commitW s l l.length 0 s.disk).1 1
def pagesS (s : Stor) (l : List Wt) : Stor × Int :=
  if s.next + l.length ≤ 20 ∧ s.tries < 99 then commitS s l
  else if (restS s).2 = 0 then commitS (restS s).1 l else restS s
def commitO (b : Bool) (s : Stor) (l : List Wt) : Stor × Int := if b = true then (if listOk l = true then pagesS s l else (s, 1)) else (stor0, 1)
theorem commitW_b {s : Stor} {l : List Wt} : ∀ (k i : Nat) (d : Dk), DkB d → DkB (commitW s l k i d).1
  | 0, _, d, h => h
  | k + 1, i, d, h => by
    unfold commitW
    split
    · exact commitW_b k (i + 1) _ (writeD_b h _ _)
    · exact h
theorem listOk_len {l : List Wt} (h : listOk l = true) : 1 ≤ l.length ∧ l.length ≤ 20 := by
  unfold listOk at h
  rw [Bool.and_eq_true] at h
  exact of_decide_eq_true h.2
theorem listOk_at {l : List Wt} (h : listOk l = true) {k : Nat} (hk : k < l.length) : 0 ≤ (l.getD k wt0).cell ∧ (l.getD k wt0).cell ≤ 19 ∧ (l.getD k wt0).text.size ≤ 1100 := by
  unfold listOk at h
  rw [Bool.and_eq_true, Bool.not_eq_true'] at h
  have hb : badAt l k = false := by
    rw [Bool.eq_false_iff]
    intro e
    rw [anyTo_hit hk e] at h
    exact Bool.noConfusion h.1
  unfold badAt at hb
  rw [Bool.or_eq_false_iff, Bool.or_eq_false_iff] at hb
  have h1 := of_decide_eq_false hb.1.1
  have h2 := of_decide_eq_false hb.1.2
  omega
end Go.Pv

/- What the store's commits do, more, with no program in sight. -/
set_option linter.unusedVariables false
set_option linter.unusedSimpArgs false
namespace Go.Pv
theorem rdGo_next (g : Nat → Int × Bool × Wt) : ∀ (k next : Nat) (above : Int) (pages : List ByteArray), next ≤ 20 → (rdGo g k next above pages).1 ≤ 20
  | 0, _, _, _, h => h
  | k + 1, next, above, pages, h => by
    unfold rdGo
    have := grpGo_le (g := g) (above := above) (20 - next) next 0 []
    simp only [List.length_nil] at this
    split
    · exact rdGo_next g k _ _ _ (by omega)
    · exact h
theorem readT_next (d : Dk) (turn : Int) : 0 ≤ (readT d turn).1.next ∧ (readT d turn).1.next ≤ 20 := by
  unfold readT
  split
  · exact ⟨Int.le_refl 0, by decide⟩
  · split
    · exact ⟨Int.le_refl 0, by decide⟩
    · have := rdGo_next (gOf d.cells turn) 21 0 0 (pagesOf d.cells) (Nat.zero_le _)
      dsimp only
      omega
theorem storeOk_next {s : Stor} (h : storeOk s = true) : 0 ≤ s.next ∧ s.next ≤ 20 := by
  obtain ⟨h1, h2, h3, h4, h5, h6, h7, h8, h9⟩ := of_decide_eq_true h
  rw [← h7]
  exact readT_next _ _
theorem restX_fine {s : Stor} {d : Dk} (h : (restX s d).2 = 0) : (restX s d).1.turn = s.turn + 1 ∧ (restX s d).1.tries = 0 ∧ (restX s d).1.next = 0 := by
  unfold restX endS refusedS at h ⊢
  by_cases h1 : (writeD d ((s.turn + 1).tmod 2) (headB (s.turn + 1))).2 = true
  · rw [if_pos h1] at h ⊢
    by_cases h2 : (syncD (writeD d ((s.turn + 1).tmod 2) (headB (s.turn + 1))).1).left = 0
    · rw [if_pos h2] at h; exact absurd (show (3 : Int) = 0 from h) (by decide)
    · rw [if_neg h2]; exact ⟨rfl, rfl, rfl⟩
  · rw [if_neg h1] at h
    split at h
    · exact absurd (show (3 : Int) = 0 from h) (by decide)
    · exact absurd (show (2 : Int) = 0 from h) (by decide)
theorem restS_fine {s : Stor} (hb : StB s) (h : (restS s).2 = 0) : StB (restS s).1 ∧ (restS s).1.next = 0 ∧ (restS s).1.tries = 0 := by
  have hB := restS_b hb
  have ht := hb.turn
  have hp := hb.pages
  by_cases h1 : 99999 ≤ s.turn
  · rw [show restS s = (s, 4) from if_pos h1] at h
    exact absurd (show (4 : Int) = 0 from h) (by decide)
  by_cases h2 : (restW s.pages 20 0 s.disk).2 = true
  · have e : restS s = restX s (syncD (restW s.pages 20 0 s.disk).1) := by unfold restS; rw [if_neg h1, if_pos h2]
    rw [e] at h
    have hf := restX_fine h
    rw [← e] at hf
    exact ⟨⟨hB.1, by rw [hB.2]; exact hp, by rw [hf.1]; omega, by rw [hf.2.1]; omega⟩, hf.2.2, hf.2.1⟩
  · have e : restS s = refusedS s (restW s.pages 20 0 s.disk).1 0 := by unfold restS; rw [if_neg h1, if_neg h2]
    rw [e] at h
    unfold refusedS at h
    split at h
    · exact absurd (show (3 : Int) = 0 from h) (by decide)
    · exact absurd (show (2 : Int) = 0 from h) (by decide)
theorem commitW_next {s : Stor} {l : List Wt} {k i : Nat} {d : Dk} (h : (writeD d (22 + (s.next + i)) (frameB s.turn (s.tries + 1) (s.next + i) (l.getD i wt0).cell (decide (i + 1 = l.length)) (l.getD i wt0).text)).2 = true) : commitW s l (k + 1) i d = commitW s l k (i + 1) (writeD d (22 + (s.next + i)) (frameB s.turn (s.tries + 1) (s.next + i) (l.getD i wt0).cell (decide (i + 1 = l.length)) (l.getD i wt0).text)).1 := by
  conv => lhs; unfold commitW; rw [if_pos h]
theorem commitW_no {s : Stor} {l : List Wt} {k i : Nat} {d : Dk} (h : (writeD d (22 + (s.next + i)) (frameB s.turn (s.tries + 1) (s.next + i) (l.getD i wt0).cell (decide (i + 1 = l.length)) (l.getD i wt0).text)).2 = false) : commitW s l (k + 1) i d = (d, false) := by
  conv => lhs; unfold commitW; rw [h]
  simp
theorem commitS_no {s : Stor} {l : List Wt} {d : Dk} (h : commitW s l l.length 0 s.disk = (d, false)) : commitS s l = refusedS s d 1 := by
  unfold commitS; rw [h]; simp
theorem commitS_yes {s : Stor} {l : List Wt} {d : Dk} (h : commitW s l l.length 0 s.disk = (d, true)) : commitS s l = endS s ⟨s.disk, s.turn, s.tries + 1, s.next + l.length, putPs s.pages l⟩ (syncD d) := by
  unfold commitS; rw [h]; simp
theorem commitS_b {s : Stor} {l : List Wt} (hb : StB s) : DkB (commitS s l).1.disk ∧ (commitS s l).1.pages.length = 20 := by
  have hp := hb.pages
  have h1 := syncD_b (commitW_b (s := s) (l := l) l.length 0 s.disk hb.disk)
  unfold commitS endS refusedS
  repeat' split
  all_goals exact ⟨h1, by first | exact hp | (show (putPs s.pages l).length = 20; rw [putPs_length]; exact hp)⟩
theorem pagesS_b {s : Stor} {l : List Wt} (hb : StB s) : DkB (pagesS s l).1.disk ∧ (pagesS s l).1.pages.length = 20 := by
  unfold pagesS
  split
  · exact commitS_b hb
  · split
    · rename_i h
      exact commitS_b (restS_fine hb h).1
    · have := restS_b hb
      exact ⟨this.1, by rw [this.2]; exact hb.pages⟩
theorem commitO_len {s : Stor} {l : List Wt} (hr : s.disk.room ≤ 9223372036854775807) (hl : s.disk.left ≤ 9223372036854775807) : (commitO (storeOk s) s l).1.disk.cells.length ≤ 42 ∧ (commitO (storeOk s) s l).1.disk.waits.length ≤ 100 ∧ (commitO (storeOk s) s l).1.pages.length ≤ 20 := by
  unfold commitO
  split
  · rename_i h
    have hb := storeOk_b hr hl h
    split
    · have := pagesS_b (l := l) hb
      exact ⟨by have := this.1.cells; omega, this.1.waits, by omega⟩
    · exact ⟨by have := hb.disk.cells; show s.disk.cells.length ≤ 42; omega, hb.disk.waits, by have := hb.pages; show s.pages.length ≤ 20; omega⟩
  · exact ⟨Nat.zero_le _, Nat.zero_le _, Nat.zero_le _⟩
end Go.Pv
