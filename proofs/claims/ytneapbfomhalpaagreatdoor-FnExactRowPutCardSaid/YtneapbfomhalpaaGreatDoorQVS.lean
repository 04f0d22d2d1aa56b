/- Values, part 19: quotes and zeros, with no program in sight. -/
import Derived.Test.YtneapbfomhalpaaGreatDoorQVR
import Derived.Lib.Replace
import Derived.Lib.Repeat
set_option linter.unusedVariables false
set_option linter.unusedSimpArgs false
namespace Go.Pv
open Go.Lib
def esc (l : List UInt8) : List UInt8 := l.flatMap fun c => if c = 39 then [39, 39] else [c]
theorem esc_cons (c : UInt8) (l : List UInt8) : esc (c :: l) = (if c = 39 then [39, 39] else [c]) ++ esc l := rfl
theorem esc_no {l : List UInt8} (h : 39 ∉ l) : esc l = l := by
  induction l with
  | nil => rfl
  | cons c l ih =>
    rw [List.mem_cons, not_or] at h
    rw [esc_cons, if_neg (fun e => h.1 e.symm), ih h.2]
    rfl
theorem esc_app (a b : List UInt8) : esc (a ++ b) = esc a ++ esc b := List.flatMap_append ..
theorem index39 (s : List UInt8) : (index s [39] = -1 ∧ 39 ∉ s) ∨ ∃ pre post, s = pre ++ 39 :: post ∧ 39 ∉ pre ∧ index s [39] = (pre.length : Int) := by
  induction s with
  | nil => exact .inl ⟨rfl, by simp⟩
  | cons c s ih =>
    by_cases hc : c = 39
    · subst hc
      exact .inr ⟨[], s, rfl, by simp, by simp [index]⟩
    · have hp : ([39] : List UInt8).isPrefixOf (c :: s) = false := by simp [List.isPrefixOf, Ne.symm hc]
      rcases ih with ⟨h1, h2⟩ | ⟨pre, post, h1, h2, h3⟩
      · refine .inl ⟨?_, by simp [h2, Ne.symm hc]⟩
        rw [index, hp, h1]
        rfl
      · refine .inr ⟨c :: pre, post, by rw [h1]; rfl, by simp [h2, Ne.symm hc], ?_⟩
        rw [index, hp, h3]
        have : ¬ ((pre.length : Int) == -1) = true := fun e => by have := beq_iff_eq.1 e; omega
        rw [if_neg (by decide), if_neg this]
        simp
theorem replaceK_esc : ∀ (k : Nat) (s : List UInt8), s.count 39 ≤ k → replaceK [39] [39, 39] k s = esc s
  | 0, s, h => by
    show s = esc s
    exact (esc_no (List.count_eq_zero.1 (Nat.le_zero.1 h))).symm
  | k + 1, s, h => by
    rcases index39 s with ⟨h1, h2⟩ | ⟨pre, post, h1, h2, h3⟩
    · rw [replaceK, h1, esc_no h2]
      rfl
    · rw [replaceK_hit _ _ _ _ _ h3, h1]
      rw [h1, List.count_append, List.count_cons_self] at h
      have e1 : (pre ++ 39 :: post).take pre.length = pre := by simp
      have e2 : (pre ++ 39 :: post).drop (pre.length + ([39] : List UInt8).length) = post := by simp
      rw [e1, e2, replaceK_esc k post (by omega), esc_app, esc_cons, esc_no h2, if_pos rfl]
      simp
theorem countFrom_esc : ∀ (k : Nat) (s : List UInt8), s.count 39 < k → countFrom [39] k s = s.count 39
  | 0, s, h => absurd h (Nat.not_lt_zero _)
  | k + 1, s, h => by
    rcases index39 s with ⟨h1, h2⟩ | ⟨pre, post, h1, h2, h3⟩
    · rw [countFrom, h1, List.count_eq_zero.2 h2]
      rfl
    · have hm : ¬ (index s [39] == -1) = true := fun e => by have := beq_iff_eq.1 e; omega
      have e3 : (index s [39]).toNat = pre.length := by omega
      rw [countFrom, if_neg hm, e3, h1]
      rw [h1, List.count_append, List.count_cons_self] at h
      have e2 : (pre ++ 39 :: post).drop (pre.length + ([39] : List UInt8).length) = post := by simp
      rw [e2, countFrom_esc k post (by omega), List.count_append, List.count_cons_self, List.count_eq_zero.2 h2]
      omega
theorem replaceAll_esc (s : List UInt8) : replaceAll s [39] [39, 39] = esc s := by
  have hc : Lib.count s [39] = s.count 39 := countFrom_esc _ _ (by have := List.count_le_length (a := (39 : UInt8)) (l := s); omega)
  unfold replaceAll replace replaceNum
  rw [if_neg (by decide), if_pos (.inl (by decide)), hc, replaceK_esc _ _ (Nat.le_refl _)]
theorem quoK_esc (s : ByteArray) : ∀ k, k ≤ s.size → (quoK s k).data.toList = 39 :: esc (s.data.toList.take k)
  | 0, _ => rfl
  | k + 1, h => by
    have hl : s.data.toList.length = s.size := rfl
    have ih := quoK_esc s k (by omega)
    have e1 : (s.extract k (k + 1)).data.toList = [s.data.toList.getD k 0] := by
      rw [ByteArray.data_extract, Array.toList_extract]
      have hk : k < s.data.toList.length := by omega
      simp only [List.extract, List.drop_take]
      rw [List.getD_eq_getElem?_getD, List.getElem?_eq_getElem hk, List.drop_eq_getElem_cons hk, show k + 1 - k = 1 by omega]
      rfl
    have e2 : s.data.toList.take (k + 1) = s.data.toList.take k ++ [s.data.toList.getD k 0] := by
      have hk : k < s.data.toList.length := by omega
      rw [List.take_succ_eq_append_getElem hk, List.getD_eq_getElem?_getD, List.getElem?_eq_getElem hk]
      rfl
    rw [quoK, e2, esc_app]
    generalize s.data.toList.getD k 0 = c at e1 ⊢
    generalize s.extract k (k + 1) = x at e1 ⊢
    have e3 : esc [c] = if c = 39 then [39, 39] else [c] := by rw [esc_cons]; simp [esc]
    rw [e3]
    by_cases hc : c = 39
    · rw [if_pos (by rw [hc]; rfl), if_pos hc]
      simp [ih, e1, hc]
    · rw [if_neg (fun e => hc (UInt8.toNat_inj.1 (by have : ((39 : UInt8).toNat : Int) = 39 := rfl; omega))), if_neg hc]
      simp [ih, e1]
theorem quoT_eq (s : ByteArray) : quoT s = (⟨#[39]⟩ : ByteArray) ++ ⟨(replaceAll s.data.toList [39] [39, 39]).toArray⟩ ++ (⟨#[39]⟩ : ByteArray) := by
  have h := quoK_esc s s.size (Nat.le_refl _)
  have hl : s.data.toList.length = s.size := rfl
  rw [List.take_of_length_le (by omega)] at h
  unfold quoT
  congr 1
  apply ByteArray.ext
  apply Array.ext'
  rw [h, replaceAll_esc]
  simp
theorem count39_le (s : ByteArray) : Lib.countB s ⟨#[39]⟩ ≤ s.size := by
  have hc : Lib.count s.data.toList [39] = s.data.toList.count 39 := countFrom_esc _ _ (by have := List.count_le_length (a := (39 : UInt8)) (l := s.data.toList); omega)
  have : Lib.countB s ⟨#[39]⟩ = Lib.count s.data.toList [39] := rfl
  rw [this, hc]
  exact List.count_le_length
theorem esc_length (l : List UInt8) : (esc l).length ≤ 2 * l.length := by
  induction l with
  | nil => exact Nat.le_refl _
  | cons c l ih =>
    rw [esc_cons, List.length_append, List.length_cons]
    split <;> simp only [List.length_cons, List.length_nil] <;> omega
theorem zeroS_eq : ∀ k, (⟨(Lib.repeatL ([48] : List UInt8) k).toArray⟩ : ByteArray) = zeroS k
  | 0 => rfl
  | k + 1 => by
    rw [zeroS, ← zeroS_eq k]
    apply ByteArray.ext
    apply Array.ext'
    simp [Lib.repeatL]
end Go.Pv
