/- What holds of stores that are read, and what their functions answer. -/
import Derived.Test.YtknciobaifdafaaGreatDoorQY0
set_option linter.unusedVariables false
set_option linter.unusedSimpArgs false
namespace Go.Pv
/-- A store within bounds. -/
structure StB (s : Stor) : Prop where
  disk : DkB s.disk
  pages : s.pages.length = 20
  turn : 0 ≤ s.turn ∧ s.turn ≤ 99999
  tries : 0 ≤ s.tries ∧ s.tries ≤ 99
theorem dkB_of {d : Dk} (h : dkOk d = true) (hr : d.room ≤ 9223372036854775807) (hl : d.left ≤ 9223372036854775807) : DkB d := by
  unfold dkOk at h
  rw [Bool.and_eq_true, Bool.and_eq_true] at h
  obtain ⟨⟨h1, _⟩, h3⟩ := h
  have h1 := of_decide_eq_true h1
  exact ⟨h1.1, h1.2.1, fun x hx => wtOk_in (List.all_eq_true.1 h3 x hx), by omega, by omega⟩
theorem trL_in (g : Nat → Int × Bool × Wt) (hg : ∀ n, 0 ≤ (g n).1 ∧ (g n).1 ≤ 99) : ∀ n, 0 ≤ trL g n ∧ trL g n ≤ 99
  | 0 => by simp [trL]
  | n + 1 => by
    have h1 := trL_in g hg n
    have h2 := hg n
    unfold trL
    omega
theorem readT_b {d : Dk} (hd : DkB d) {turn : Int} (ht : 0 ≤ turn ∧ turn ≤ 99999) (h : (readT d turn).2 = true) : StB (readT d turn).1 ∧ (readT d turn).1.disk = d := by
  unfold readT at h ⊢
  split at h
  · cases h
  · split at h
    · cases h
    · rename_i h1 h2
      rw [if_neg h1, if_neg h2]
      refine ⟨⟨hd, ?_, ht, trL_in _ (gOf_try _ _) _⟩, rfl⟩
      dsimp only
      rw [rdGo_length]
      unfold pagesOf
      rw [List.length_take, List.length_drop, hd.cells]
      rfl
theorem readD_b {d : Dk} (hd : DkB d) (h : (readD d).2 = true) : StB (readD d).1 ∧ (readD d).1.disk = d := by
  have h1 := turnL_in (d.cells.getD 0 ByteArray.empty) 0
  have h2 := turnL_in (d.cells.getD 1 ByteArray.empty) 1
  exact readT_b hd (by omega) h
theorem storeRead_b {d : Dk} (hr : d.room ≤ 9223372036854775807) (hl : d.left ≤ 9223372036854775807) (h : (storeRead d).2 = true) : StB (storeRead d).1 ∧ (storeRead d).1.disk = d := by
  unfold storeRead at h ⊢
  split at h
  · rename_i hk
    rw [if_pos hk]
    exact readD_b (dkB_of hk.1 hr hl) h
  · cases h
theorem storeOk_b {s : Stor} (hr : s.disk.room ≤ 9223372036854775807) (hl : s.disk.left ≤ 9223372036854775807) (h : storeOk s = true) : StB s := by
  obtain ⟨h1, h2, h3, h4, h5, h6, h7, h8, h9⟩ := of_decide_eq_true h
  have hd := dkB_of h1 hr hl
  have hb := (readD_b hd h5).1
  exact ⟨hd, by rw [← h9]; exact hb.pages, by rw [← h6]; exact hb.turn, ⟨h3, h4⟩⟩
def restO (b : Bool) (s : Stor) : Stor × Int := if b = true then restS s else (stor0, 1)
def riseR (r : Stor × Int) : Stor × Int := if r.2 = 0 then (r.1, 0) else (setDisk stor0 r.1.disk, r.2)
def riseO (x : Stor × Bool) : Stor × Int := if x.2 = true then riseR (restS x.1) else (stor0, 1)
theorem restX_b {s : Stor} {d : Dk} (hd : DkB d) : DkB (restX s d).1.disk ∧ (restX s d).1.pages = s.pages := by
  unfold restX endS refusedS
  have h1 := syncD_b hd
  have h2 := syncD_b (writeD_b hd ((s.turn + 1).tmod 2) (headB (s.turn + 1)))
  repeat' split
  all_goals first | exact ⟨h1, rfl⟩ | exact ⟨h2, rfl⟩
theorem restS_b {s : Stor} (hb : StB s) : DkB (restS s).1.disk ∧ (restS s).1.pages = s.pages := by
  have hw := restW_b (pages := s.pages) 20 0 s.disk hb.disk
  unfold restS
  split
  · exact ⟨hb.disk, rfl⟩
  · split
    · exact restX_b (syncD_b hw)
    · unfold refusedS
      split
      · exact ⟨syncD_b hw, rfl⟩
      · exact ⟨syncD_b hw, rfl⟩
theorem restO_len {s : Stor} (hr : s.disk.room ≤ 9223372036854775807) (hl : s.disk.left ≤ 9223372036854775807) : (restO (storeOk s) s).1.disk.cells.length ≤ 42 ∧ (restO (storeOk s) s).1.disk.waits.length ≤ 100 ∧ (restO (storeOk s) s).1.pages.length ≤ 20 := by
  unfold restO
  split
  · rename_i h
    have hb := storeOk_b hr hl h
    have := restS_b hb
    have hp := hb.pages
    rw [this.2]
    exact ⟨by have := this.1.cells; omega, this.1.waits, by omega⟩
  · exact ⟨Nat.zero_le _, Nat.zero_le _, Nat.zero_le _⟩
theorem riseO_len {d : Dk} (hr : d.room ≤ 9223372036854775807) (hl : d.left ≤ 9223372036854775807) : (riseO (storeRead d)).1.disk.cells.length ≤ 42 ∧ (riseO (storeRead d)).1.disk.waits.length ≤ 100 ∧ (riseO (storeRead d)).1.pages.length ≤ 20 := by
  unfold riseO
  split
  · rename_i h
    have hb := (storeRead_b hr hl h).1
    have := restS_b hb
    have hp := hb.pages
    unfold riseR
    split
    · dsimp only
      rw [this.2]
      exact ⟨by have := this.1.cells; omega, this.1.waits, by omega⟩
    · exact ⟨by have := this.1.cells; show (restS (storeRead d).1).1.disk.cells.length ≤ 42; omega, this.1.waits, Nat.zero_le _⟩
  · exact ⟨Nat.zero_le _, Nat.zero_le _, Nat.zero_le _⟩
theorem readT_dk (d : Dk) (turn : Int) : (readT d turn).1.disk = d ∨ (readT d turn).1 = stor0 := by
  unfold readT
  repeat' split
  all_goals first | exact .inr rfl | exact .inl rfl
def newDk : Dk := ⟨List.replicate 42 ByteArray.empty, [], -1, -1⟩
theorem newDk_b : DkB newDk := ⟨rfl, Nat.zero_le _, by simp [newDk], by decide, by decide⟩
def newS : Stor := (readD (syncD (writeD newDk 1 (headB 1)).1)).1
theorem newS_len : newS.disk.cells.length ≤ 42 ∧ newS.disk.waits.length ≤ 100 ∧ newS.pages.length ≤ 20 := by
  have hb := syncD_b (writeD_b newDk_b 1 (headB 1))
  refine ⟨?_, ?_, readD_pages _⟩
  all_goals
    unfold newS readD
    rcases readT_dk (syncD (writeD newDk 1 (headB 1)).1) (max (turnL ((syncD (writeD newDk 1 (headB 1)).1).cells.getD 0 ByteArray.empty) 0) (turnL ((syncD (writeD newDk 1 (headB 1)).1).cells.getD 1 ByteArray.empty) 1)) with h | h
    · rw [h]; first | exact Nat.le_of_eq hb.cells | exact hb.waits
    · rw [h]; exact Nat.zero_le _
end Go.Pv
