/- The store's reading, with no program in sight: what is read behind a commit, and behind a rest. -/
import Derived.Test.YtknciobaifdafaaGreatDoorQD
import Derived.Test.YtknciobaifdafaaGreatDoorQD1
set_option linter.unusedVariables false
set_option linter.unusedSimpArgs false
namespace Go.Pv
theorem Gs {c : List ByteArray} {turn : Int} {n : Nat} (ht : 1 ≤ turn ∧ turn ≤ 99999) (hn : n < 20) (h : 0 < (gOf c turn n).1) :
    ∃ f, FrIn f ∧ f.turn = turn ∧ f.place = n ∧ frOf f = c.getD (22 + n) ByteArray.empty ∧ gOf c turn n = (f.tries, f.last, ⟨f.cell, f.text⟩) := by
  have := ny ht (by omega : 0 ≤ (n : Int) ∧ (n : Int) ≤ 19) h
  exact ⟨_, this.1, rfl, rfl, this.2, rfl⟩
theorem KJ {c : List ByteArray} {f : Fr} {n : Nat} (hf : FrIn f) (hn : f.place = n) (h : c.getD (22 + n) ByteArray.empty = frOf f) : gOf c f.turn n = (f.tries, f.last, ⟨f.cell, f.text⟩) := by
  unfold gOf
  rw [h, ← hn]
  exact ni hf
theorem CP {f g : Fr} (hf : FrIn f) (hg : FrIn g) (h : frOf f = frOf g) : f.turn = g.turn := by
  have h1 := qZ (tries := f.tries) (place := f.place) (cell := f.cell) f.last f.text (turn := f.turn) (by have := hf.1; omega) (by have := hf.1; omega)
  have h2 := qZ (tries := g.tries) (place := g.place) (cell := g.cell) g.last g.text (turn := g.turn) (by have := hg.1; omega) (by have := hg.1; omega)
  unfold frOf at h
  rw [h] at h1
  exact h1.symm.trans h2
theorem KL {c : List ByteArray} {turn : Int} {n : Nat} (h0 : 0 ≤ turn) (hn : n < 20) (h : lK c turn n = true) : ∃ f, FrIn f ∧ f.place = n ∧ frOf f = c.getD (22 + n) ByteArray.empty ∧ turn < f.turn := by
  unfold lK at h
  obtain ⟨h1, h2, h3⟩ := of_decide_eq_true h
  have := ny (turn := vM c n) (by omega) (by omega : 0 ≤ (n : Int) ∧ (n : Int) ≤ 19) h1
  exact ⟨_, this.1, rfl, this.2, h2⟩
theorem OX {c : List ByteArray} {turn : Int} {n : Nat} {f : Fr} (hf : FrIn f) (hn : f.place = n) (h : c.getD (22 + n) ByteArray.empty = frOf f) (ht : turn < f.turn) : lK c turn n = true := by
  have ho : vM c n = f.turn := by
    unfold vM
    rw [h]
    unfold frOf
    exact qZ f.last f.text (by have := hf.1; omega) (by have := hf.1; omega)
  unfold lK
  rw [ho, h, ← hn, ni hf]
  exact decide_eq_true ⟨by have := hf.2.1; dsimp only; omega, ht, hf.1.2⟩
def nV (c : List ByteArray) (T : Int) : Prop := ∀ (n : Nat) (f : Fr), n < 20 → FrIn f → f.place = n → c.getD (22 + n) ByteArray.empty = frOf f → f.turn ≤ T
theorem lG {f : Nat → Bool} : ∀ {n : Nat}, (∀ k, k < n → f k = false) → dL f n = false
  | 0, _ => rfl
  | n + 1, h => by unfold dL; rw [lG (fun k hk => h k (by omega)), h n (by omega)]; rfl
theorem kN {f : Nat → Bool} {n k : Nat} (h : dL f n = false) (hk : k < n) : f k = false := by
  rw [Bool.eq_false_iff]
  intro e
  rw [kJ hk e] at h
  cases h
theorem uD {c : List ByteArray} {T : Int} (h0 : 0 ≤ T) : dL (lK c T) 20 = false ↔ nV c T := by
  constructor
  · intro h n f hn hf hp hc
    have := kN h hn
    rcases Int.lt_or_le T f.turn with ht | ht
    · rw [OX hf hp hc ht] at this; cases this
    · exact ht
  · intro h
    refine lG fun k hk => ?_
    rw [Bool.eq_false_iff]
    intro e
    obtain ⟨f, hf, hp, hc, ht⟩ := KL h0 hk e
    have := h k f hk hf hp hc.symm
    omega
theorem xA {g g' : Nat → Int × Bool × Wt} {above : Int} : ∀ (k n : Nat) (own : Int) (out : List Wt), 0 < (aY g above k n own out).1 → (∀ m, n ≤ m → (m : Int) < n + ((aY g above k n own out).1 - out.length) → g' m = g m) →
    aY g' above k n own out = aY g above k n own out ∧ (out.length : Int) < (aY g above k n own out).1
  | 0, n, own, out, h, _ => by simp [aY] at h
  | k + 1, n, own, out, h, he => by
    have hlt : (out.length : Int) < (aY g above (k + 1) n own out).1 := by
      unfold aY at h ⊢
      split at h
      · simp at h
      · rename_i h1
        rw [if_neg h1]
        split at h
        · rename_i h2; rw [if_pos h2]; dsimp only; omega
        · rename_i h2
          rw [if_neg h2]
          have := (xA (g' := g) k (n + 1) (g n).1 (out ++ [(g n).2.2]) h (fun _ _ _ => rfl)).2
          simp only [List.length_append, List.length_cons, List.length_nil] at this
          omega
    have hn : g' n = g n := he n (Nat.le_refl _) (by omega)
    refine ⟨?_, hlt⟩
    unfold aY at h he ⊢
    rw [hn]
    split
    · rfl
    · rename_i h1
      rw [if_neg h1] at h he
      split
      · rfl
      · rename_i h2
        rw [if_neg h2] at h he
        refine (xA k (n + 1) (g n).1 (out ++ [(g n).2.2]) h (fun m hm hm2 => he m (by omega) ?_)).1
        simp only [List.length_append, List.length_cons, List.length_nil] at hm2
        omega
inductive Rd (g : Nat → Int × Bool × Wt) : Nat → Int → List ByteArray → Nat → Int → List ByteArray → Prop
  | stop (n : Nat) (a : Int) (P : List ByteArray) : (aY g a (20 - n) n 0 []).1 ≤ 0 → Rd g n a P n a P
  | more (n : Nat) (a : Int) (P : List ByteArray) (N : Nat) (A : Int) (Q : List ByteArray) : 0 < (aY g a (20 - n) n 0 []).1 → Rd g (n + (aY g a (20 - n) n 0 []).1.toNat) (aY g a (20 - n) n 0 []).2.1 (aj P (aY g a (20 - n) n 0 []).2.2) N A Q → Rd g n a P N A Q
theorem MV {g : Nat → Int × Bool × Wt} : ∀ (k n : Nat) (a : Int) (P : List ByteArray), 21 ≤ n + k → n ≤ 20 → ∃ A, Rd g n a P (rdGo g k n a P).1 A (rdGo g k n a P).2
  | 0, n, a, P, h, h2 => by omega
  | k + 1, n, a, P, h, h2 => by
    have hle := lw (g := g) (above := a) (20 - n) n 0 []
    simp only [List.length_nil] at hle
    unfold rdGo
    split
    · rename_i hp
      obtain ⟨A, hA⟩ := MV (g := g) k (n + (aY g a (20 - n) n 0 []).1.toNat) (aY g a (20 - n) n 0 []).2.1 (aj P (aY g a (20 - n) n 0 []).2.2) (by omega) (by omega)
      exact ⟨A, .more n a P _ _ _ hp hA⟩
    · exact ⟨a, .stop n a P (by omega)⟩
theorem QQ {g : Nat → Int × Bool × Wt} {n N : Nat} {a A : Int} {P Q : List ByteArray} (h : Rd g n a P N A Q) : ∀ k, 21 ≤ n + k → n ≤ 20 → rdGo g k n a P = (N, Q) := by
  induction h with
  | stop n a P h0 =>
    intro k hk hn
    rcases k with _ | k
    · omega
    · unfold rdGo; rw [if_neg (by omega)]
  | more n a P N A Q h0 h1 ih =>
    intro k hk hn
    have hle := lw (g := g) (above := a) (20 - n) n 0 []
    simp only [List.length_nil] at hle
    rcases k with _ | k
    · omega
    · unfold rdGo
      rw [if_pos h0]
      exact ih k (by omega) (by omega)
theorem Rd.le {g : Nat → Int × Bool × Wt} {n N : Nat} {a A : Int} {P Q : List ByteArray} (h : Rd g n a P N A Q) : n ≤ N := by
  induction h with
  | stop => exact Nat.le_refl _
  | more n a P N A Q h0 h1 ih => omega
theorem Rd.top {g : Nat → Int × Bool × Wt} {n N : Nat} {a A : Int} {P Q : List ByteArray} (h : Rd g n a P N A Q) (hn : n ≤ 20) : N ≤ 20 := by
  induction h with
  | stop => exact hn
  | more n a P N A Q h0 h1 ih =>
    have hle := lw (g := g) (above := a) (20 - n) n 0 []
    simp only [List.length_nil] at hle
    exact ih (by omega)
theorem Rd.same {g g' : Nat → Int × Bool × Wt} {n N : Nat} {a A : Int} {P Q : List ByteArray} (h : Rd g n a P N A Q) (he : ∀ m, m < N → g' m = g m) {N' : Nat} {A' : Int} {Q' : List ByteArray} (hc : Rd g' N A Q N' A' Q') : Rd g' n a P N' A' Q' := by
  induction h with
  | stop n a P h0 => exact hc
  | more n a P N A Q h0 h1 ih =>
    have hN := h1.le
    have e := (xA (g' := g') (20 - n) n 0 [] h0 (fun m hm hm2 => he m (by simp at hm2; omega))).1
    refine .more n a P _ _ _ (by rw [e]; exact h0) ?_
    rw [e]
    exact ih he hc
theorem Rd.own {g : Nat → Int × Bool × Wt} {n N : Nat} {a A B : Int} {P Q : List ByteArray} (h : Rd g n a P N A Q) (ha : a ≤ B) (hn : n ≤ 20) (hg : ∀ m, m < 20 → (g m).1 ≤ B) (hB : 0 ≤ B) : A ≤ B := by
  induction h with
  | stop => exact ha
  | more n a P N A Q h0 h1 ih =>
    have hle := lw (g := g) (above := a) (20 - n) n 0 []
    simp only [List.length_nil] at hle
    refine ih ?_ (by omega)
    have key : ∀ (k m : Nat) (own : Int) (out : List Wt), m + k ≤ 20 → own ≤ B → (aY g a k m own out).2.1 ≤ B := by
      intro k
      induction k with
      | zero => intro m own out _ _; simpa [aY] using hB
      | succ k ih =>
        intro m own out hm ho
        unfold aY
        split
        · simpa using hB
        · split
          · exact hg m (by omega)
          · exact ih _ _ _ (by omega) (hg m (by omega))
    exact key _ _ _ _ (by omega) hB
end Go.Pv
set_option linter.unusedVariables false
set_option linter.unusedSimpArgs false
namespace Go.Pv
def cellAt (c : List ByteArray) (k : Nat) : ByteArray := c.getD k ByteArray.empty
structure Good (s : Stor) : Prop where
  len : s.disk.cells.length = 42
  waits : s.disk.waits = []
  small : ∀ k, (cellAt s.disk.cells k).size ≤ 1200
  turn : 1 ≤ s.turn ∧ s.turn ≤ 99999
  tries : 0 ≤ s.tries ∧ s.tries ≤ 99
  next : 0 ≤ s.next
  heads : max (aA (cellAt s.disk.cells 0) 0) (aA (cellAt s.disk.cells 1) 1) = s.turn
  late : nV s.disk.cells s.turn
  read : ∃ A, Rd (gOf s.disk.cells s.turn) 0 0 (ay s.disk.cells) s.next.toNat A s.pages
  most : ∀ m, m < 20 → (gOf s.disk.cells s.turn m).1 ≤ s.tries
  big : gQ s.pages = false
theorem Ef {g : Nat → Int × Bool × Wt} {B : Int} : ∀ {n : Nat}, trL g n ≤ B → ∀ m, m < n → (g m).1 ≤ B
  | 0, _, m, hm => absurd hm (Nat.not_lt_zero _)
  | n + 1, h, m, hm => by
    unfold trL at h
    by_cases e : m = n
    · subst e; omega
    · exact Ef (n := n) (by omega) m (by omega)
theorem Eg {g : Nat → Int × Bool × Wt} {B : Int} (hB : 0 ≤ B) : ∀ {n : Nat}, (∀ m, m < n → (g m).1 ≤ B) → trL g n ≤ B
  | 0, _ => hB
  | n + 1, h => by
    unfold trL
    have := Eg hB (n := n) (fun m hm => h m (by omega))
    have := h n (by omega)
    omega
theorem nI {c : List ByteArray} : (c.all fun s => decide (s.size ≤ 1200)) = true ↔ ∀ k, (cellAt c k).size ≤ 1200 := by
  rw [List.all_eq_true]
  constructor
  · intro h k
    unfold cellAt
    rcases Nat.lt_or_ge k c.length with hk | hk
    · have := h c[k] (List.getElem_mem hk)
      rw [List.getD_eq_getElem?_getD, List.getElem?_eq_getElem hk]
      exact of_decide_eq_true this
    · rw [List.getD_eq_getElem?_getD, List.getElem?_eq_none hk]; exact Nat.zero_le _
  · intro h x hx
    obtain ⟨k, hk, rfl⟩ := List.getElem_of_mem hx
    have := h k
    unfold cellAt at this
    rw [List.getD_eq_getElem?_getD, List.getElem?_eq_getElem hk] at this
    exact decide_eq_true this
theorem zQ {d : Dk} (h : (dN d).2 = true) : ∃ T, T = max (aA (cellAt d.cells 0) 0) (aA (cellAt d.cells 1) 1) ∧ 1 ≤ T ∧ T ≤ 99999 ∧ nV d.cells T ∧
    (dN d).1.disk = d ∧ (dN d).1.turn = T ∧ (dN d).1.tries = trL (gOf d.cells T) 20 ∧ 0 ≤ (dN d).1.next ∧ (∃ A, Rd (gOf d.cells T) 0 0 (ay d.cells) (dN d).1.next.toNat A (dN d).1.pages) ∧ gQ (dN d).1.pages = false := by
  have h1 := je (cellAt d.cells 0) 0
  have h2 := je (cellAt d.cells 1) 1
  unfold dN at h ⊢
  change (iC d (max (aA (cellAt d.cells 0) 0) (aA (cellAt d.cells 1) 1))).2 = true at h
  generalize hT : max (aA (cellAt d.cells 0) 0) (aA (cellAt d.cells 1) 1) = T at h ⊢
  change ∃ T', T' = T ∧ 1 ≤ T' ∧ T' ≤ 99999 ∧ nV d.cells T' ∧ (iC d (max (aA (cellAt d.cells 0) 0) (aA (cellAt d.cells 1) 1))).1.disk = d ∧ (iC d (max (aA (cellAt d.cells 0) 0) (aA (cellAt d.cells 1) 1))).1.turn = T' ∧ (iC d (max (aA (cellAt d.cells 0) 0) (aA (cellAt d.cells 1) 1))).1.tries = trL (gOf d.cells T') 20 ∧ 0 ≤ (iC d (max (aA (cellAt d.cells 0) 0) (aA (cellAt d.cells 1) 1))).1.next ∧ (∃ A, Rd (gOf d.cells T') 0 0 (ay d.cells) (iC d (max (aA (cellAt d.cells 0) 0) (aA (cellAt d.cells 1) 1))).1.next.toNat A (iC d (max (aA (cellAt d.cells 0) 0) (aA (cellAt d.cells 1) 1))).1.pages) ∧ gQ (iC d (max (aA (cellAt d.cells 0) 0) (aA (cellAt d.cells 1) 1))).1.pages = false
  rw [hT]
  refine ⟨T, rfl, ?_⟩
  unfold iC at h ⊢
  by_cases c1 : T = 0 ∨ dL (lK d.cells T) 20 = true
  · rw [if_pos c1] at h; cases h
  · rw [if_neg c1] at h ⊢
    by_cases c2 : gQ (rdGo (gOf d.cells T) 21 0 0 (ay d.cells)).2 = true
    · rw [if_pos c2] at h; cases h
    · rw [if_neg c2]
      rw [not_or] at c1
      have hnl := (uD (c := d.cells) (by omega : 0 ≤ T)).1 (by simpa using c1.2)
      obtain ⟨A, hA⟩ := MV (g := gOf d.cells T) 21 0 0 (ay d.cells) (by omega) (by omega)
      exact ⟨by omega, by omega, hnl, rfl, rfl, rfl, by dsimp only; omega, ⟨A, by dsimp only; rw [Int.toNat_natCast]; exact hA⟩, by simpa using c2⟩
theorem zS {d : Dk} {T N : Int} {A : Int} {P : List ByteArray} (hT : max (aA (cellAt d.cells 0) 0) (aA (cellAt d.cells 1) 1) = T) (h1 : 1 ≤ T) (hnl : nV d.cells T) (hN : 0 ≤ N) (hr : Rd (gOf d.cells T) 0 0 (ay d.cells) N.toNat A P) (hb : gQ P = false) :
    dN d = (⟨d, T, trL (gOf d.cells T) 20, N, P⟩, true) := by
  unfold dN
  change iC d (max (aA (cellAt d.cells 0) 0) (aA (cellAt d.cells 1) 1)) = _
  rw [hT]
  have hg := QQ hr 21 (by omega) (by omega)
  unfold iC
  rw [if_neg (by rw [(uD (by omega)).2 hnl]; simp; omega), hg, hb]
  simp
  omega
theorem bG {s : Stor} (h : ag s = true) : Good s := by
  obtain ⟨h1, h2, h3, h4, h5, h6, h7, h8, h9⟩ := of_decide_eq_true h
  obtain ⟨T, e, t1, t2, nl, e1, e2, e3, n0, hr, hb⟩ := zQ h5
  unfold dkOk at h1
  rw [Bool.and_eq_true, Bool.and_eq_true] at h1
  obtain ⟨⟨k1, k2⟩, k3⟩ := h1
  have hT : T = s.turn := e2.symm.trans h6
  subst hT
  refine ⟨(of_decide_eq_true k1).1, List.eq_nil_of_length_eq_zero h2, nI.1 k2, ⟨t1, t2⟩, ⟨h3, h4⟩, by rw [← h7]; exact n0, e.symm, nl, ?_, ?_, by rw [← h9]; exact hb⟩
  · rw [← h7, ← h9]; exact hr
  · exact Ef (by rw [← e3]; exact h8)
theorem gV {s : Stor} (h : Good s) (hr : -1 ≤ s.disk.room) (hl : -1 ≤ s.disk.left) : ag s = true := by
  obtain ⟨A, hA⟩ := h.read
  have e := zS (d := s.disk) h.heads h.turn.1 h.late h.next hA h.big
  unfold ag
  have hd : dkOk s.disk = true := by
    unfold dkOk
    rw [Bool.and_eq_true, Bool.and_eq_true]
    exact ⟨⟨decide_eq_true ⟨h.len, by rw [h.waits]; exact Nat.zero_le _, hr, hl⟩, nI.2 h.small⟩, by rw [h.waits]; rfl⟩
  exact decide_eq_true ⟨hd, by rw [h.waits]; rfl, h.tries.1, h.tries.2, by rw [e], by rw [e], by rw [e], by rw [e]; exact Eg h.tries.1 h.most, by rw [e]⟩
def frAt (s : Stor) (l : List Wt) (i : Nat) : Fr := ⟨s.turn, s.tries + 1, s.next + i, (l.getD i wt0).cell, decide (i + 1 = l.length), (l.getD i wt0).text⟩
structure Wrote (s : Stor) (l : List Wt) (j : Nat) (c' : List ByteArray) : Prop where
  len : c'.length = 42
  low : ∀ k, k < 22 → cellAt c' k = cellAt s.disk.cells k
  log : ∀ m, m < 20 → cellAt c' (22 + m) = if s.next.toNat ≤ m ∧ m < s.next.toNat + j then frOf (frAt s l (m - s.next.toNat)) else cellAt s.disk.cells (22 + m)
theorem Eh {s : Stor} {l : List Wt} (h : Good s) (hl : listOk l = true) (hn : s.next + l.length ≤ 20) (h99 : s.tries ≤ 98) {i : Nat} (hi : i < l.length) : FrIn (frAt s l i) := by
  have := fE hl hi
  have := h.next
  have := h.tries
  exact ⟨h.turn, by unfold frAt; dsimp only; omega, by unfold frAt; dsimp only; omega, by unfold frAt; dsimp only; omega, by unfold frAt; dsimp only; omega⟩
theorem yc {P : List ByteArray} {l : List Wt} (hP : gQ P = false) (hl : ∀ w ∈ l, w.text.size ≤ 1100) : gQ (aj P l) = false := by
  induction l generalizing P with
  | nil => exact hP
  | cons w l ih =>
    refine ih ?_ (fun x hx => hl x (List.mem_cons_of_mem _ hx))
    refine lG fun k hk => ?_
    have h1 := kN hP hk
    have h2 := hl w (List.mem_cons_self ..)
    have h1 := of_decide_eq_false h1
    refine decide_eq_false ?_
    rw [List.getD_eq_getElem?_getD, List.getElem?_set]
    rw [List.getD_eq_getElem?_getD] at h1
    split
    · split
      · simpa using h2
      · simp
    · exact h1
theorem zT {g : Nat → Int × Bool × Wt} {t A : Int} {l : List Wt} {n : Nat} (h0 : 0 < t) (hA : A < t) (hg : ∀ i, i < l.length → g (n + i) = (t, decide (i + 1 = l.length), l.getD i wt0)) : ∀ (r i k : Nat) (own : Int), i + r = l.length → 0 < r → r ≤ k → (own = 0 ∨ own = t) → aY g A k (n + i) own (l.take i) = ((l.length : Int), t, l)
  | 0, i, k, own, _, h, _, _ => absurd h (Nat.lt_irrefl _)
  | r + 1, i, k, own, hi, _, hk, ho => by
    obtain ⟨k, rfl⟩ : ∃ k', k = k' + 1 := ⟨k - 1, by omega⟩
    have hgi := hg i (by omega)
    have e : l.take i ++ [l.getD i wt0] = l.take (i + 1) := by
      rw [List.take_add_one, List.getElem?_eq_getElem (by omega), List.getD_eq_getElem?_getD, List.getElem?_eq_getElem (by omega)]
      rfl
    unfold aY
    rw [hgi]
    dsimp only
    rw [if_neg (by omega)]
    by_cases hr : i + 1 = l.length
    · rw [decide_eq_true hr, if_pos rfl, e, hr, List.take_length]
      congr 1
      rw [List.length_take]
      omega
    · rw [decide_eq_false hr, if_neg (by simp), e]
      exact zT h0 hA hg r (i + 1) k t (by omega) (by omega) (by omega) (.inr rfl)
theorem Gt {g : Nat → Int × Bool × Wt} {t A B : Int} {l : List Wt} {n j : Nat} (h0 : 0 < t) (hA : A < t) (hj : j < l.length) (hj0 : 0 < j) (hg : ∀ i, i < j → g (n + i) = (t, decide (i + 1 = l.length), l.getD i wt0)) (hn : n + j < 20 → (g (n + j)).1 < t) : ∀ (r i k : Nat) (own : Int) (out : List Wt), i + r = j → n + i + k = 20 → (own = 0 ∧ i = 0 ∨ own = t) → (aY g A k (n + i) own out).1 ≤ 0
  | r, i, 0, own, out, _, _, _ => by simp [aY]
  | 0, i, k + 1, own, out, hi, hk, ho => by
    have e : i = j := by omega
    subst e
    have := hn (by omega)
    unfold aY
    rw [if_pos (by omega)]
    exact Int.le_refl 0
  | r + 1, i, k + 1, own, out, hi, hk, ho => by
    have hgi := hg i (by omega)
    unfold aY
    rw [hgi]
    dsimp only
    rw [if_neg (by omega), decide_eq_false (by omega), if_neg (by simp)]
    exact Gt (B := B) h0 hA hj hj0 hg hn r (i + 1) k t _ (by omega) (by omega) (.inr rfl)
theorem zU {s : Stor} {l : List Wt} {j : Nat} {c' : List ByteArray} {rm lf : Int} (h : Good s) (hl : listOk l = true) (hn : s.next + l.length ≤ 20) (h99 : s.tries ≤ 98) (hj : j ≤ l.length) (hw : Wrote s l j c') (hsm : ∀ k, (cellAt c' k).size ≤ 1200) {N' : Int} {P' : List ByteArray} (hNP : j = l.length ∧ N' = s.next + l.length ∧ P' = aj s.pages l ∨ j < l.length ∧ N' = s.next ∧ P' = s.pages) :
    Good ⟨⟨c', [], rm, lf⟩, s.turn, s.tries + 1, N', P'⟩ := by
  obtain ⟨A, hA⟩ := h.read
  have hn0 := h.next
  have ht := h.tries
  have hlen := bW hl
  have hN := hA.top (Nat.zero_le _)
  have hAB := hA.own (B := s.tries) (by omega) (Nat.zero_le _) h.most ht.1
  have hfr : ∀ i, i < l.length → FrIn (frAt s l i) := fun i hi => Eh h hl hn h99 hi
  have hold : ∀ m, m < 20 → ¬ (s.next.toNat ≤ m ∧ m < s.next.toNat + j) → gOf c' s.turn m = gOf s.disk.cells s.turn m := fun m hm hm2 => by
    have := hw.log m hm
    rw [if_neg hm2] at this
    unfold cellAt at this
    unfold gOf
    rw [this]
  have hnew : ∀ i, i < j → gOf c' s.turn (s.next.toNat + i) = (s.tries + 1, decide (i + 1 = l.length), l.getD i wt0) := fun i hi => by
    have := hw.log (s.next.toNat + i) (by omega)
    rw [if_pos (by omega), show s.next.toNat + i - s.next.toNat = i by omega] at this
    have e := KJ (f := frAt s l i) (n := s.next.toNat + i) (hfr i (by omega)) (by show s.next + (i : Int) = ((s.next.toNat + i : Nat) : Int); omega) this
    exact e
  have hpg : ay c' = ay s.disk.cells := by
    unfold ay
    refine List.ext_getElem? fun k => ?_
    rw [List.getElem?_take, List.getElem?_take]
    split
    · rename_i hk
      rw [List.getElem?_drop, List.getElem?_drop]
      have := hw.low (2 + k) (by omega)
      have e1 := hw.len
      have e2 := h.len
      unfold cellAt at this
      rw [List.getD_eq_getElem?_getD, List.getD_eq_getElem?_getD, List.getElem?_eq_getElem (by omega), List.getElem?_eq_getElem (by omega)] at this
      rw [List.getElem?_eq_getElem (by omega), List.getElem?_eq_getElem (by omega)]
      exact congrArg some this
    · rfl
  refine { len := hw.len, waits := rfl, small := hsm, turn := h.turn, tries := ?_, next := ?_, heads := ?_, late := ?_, read := ?_, most := ?_, big := ?_ }
  · dsimp only; omega
  · dsimp only; rcases hNP with hx | hx <;> omega
  · dsimp only
    rw [hw.low 0 (by omega), hw.low 1 (by omega)]
    exact h.heads
  · intro m f hm hf hp hc
    dsimp only at hc
    have := hw.log m hm
    split at this
    · rename_i hr
      have e := CP hf (hfr _ (by omega)) (hc.symm.trans this)
      rw [e]
      exact Int.le_refl _
    · exact h.late m f hm hf hp (this.symm.trans hc)
  · dsimp only
    rw [hpg]
    rcases hNP with ⟨e, rfl, rfl⟩ | ⟨e, rfl, rfl⟩
    · subst e
      refine ⟨s.tries + 1, hA.same (g' := gOf c' s.turn) (fun m hm => hold m (by omega) (by omega)) ?_⟩
      have hg := zT (g := gOf c' s.turn) (t := s.tries + 1) (A := A) (l := l) (n := s.next.toNat) (by omega) (by omega) hnew l.length 0 (20 - s.next.toNat) 0 (by omega) (by omega) (by omega) (.inl rfl)
      rw [Nat.add_zero, List.take_zero] at hg
      refine .more _ _ _ _ _ _ (by rw [hg]; dsimp only; omega) ?_
      rw [hg]
      dsimp only
      rw [Int.toNat_natCast, show (s.next + (l.length : Int)).toNat = s.next.toNat + l.length by omega]
      refine .stop _ _ _ ?_
      rcases hk : 20 - (s.next.toNat + l.length) with _ | k
      · simp [aY]
      · unfold aY
        rw [hold _ (by omega) (by omega), if_pos (.inl (by have := h.most (s.next.toNat + l.length) (by omega); omega))]
        exact Int.le_refl 0
    · refine ⟨A, hA.same (g' := gOf c' s.turn) (fun m hm => hold m (by omega) (by omega)) (.stop _ _ _ ?_)⟩
      rcases Nat.eq_zero_or_pos j with rfl | hj0
      · have hall : ∀ m, m < 20 → gOf c' s.turn m = gOf s.disk.cells s.turn m := fun m hm => hold m hm (by omega)
        have hst : ∀ (n N : Nat) (a A : Int) (P Q : List ByteArray), Rd (gOf s.disk.cells s.turn) n a P N A Q → (aY (gOf s.disk.cells s.turn) A (20 - N) N 0 []).1 ≤ 0 := by
          intro n N a A P Q hR
          induction hR with
          | stop n a P h0 => exact h0
          | more n a P N A Q h0 h1 ih => exact ih
        have h0 := hst _ _ _ _ _ _ hA
        have hcg : ∀ (k m : Nat) (own : Int) (out : List Wt), m + k ≤ 20 → aY (gOf c' s.turn) A k m own out = aY (gOf s.disk.cells s.turn) A k m own out := by
          intro k
          induction k with
          | zero => intros; rfl
          | succ k ih =>
            intro m own out hm
            unfold aY
            rw [hall m (by omega), ih _ _ _ (by omega)]
        rw [hcg _ _ _ _ (by omega)]
        exact h0
      · have := Gt (g := gOf c' s.turn) (t := s.tries + 1) (A := A) (B := 0) (l := l) (n := s.next.toNat) (j := j) (by omega) (by omega) (by omega) hj0 hnew (fun hm => by rw [hold _ hm (by omega)]; have := h.most (s.next.toNat + j) hm; omega) j 0 (20 - s.next.toNat) 0 [] (by omega) (by omega) (.inl ⟨rfl, rfl⟩)
        rwa [Nat.add_zero] at this
  · intro m hm
    dsimp only
    by_cases hr : s.next.toNat ≤ m ∧ m < s.next.toNat + j
    · have := hnew (m - s.next.toNat) (by omega)
      rw [show s.next.toNat + (m - s.next.toNat) = m by omega] at this
      rw [this]
      exact Int.le_refl _
    · rw [hold m hm hr]
      have := h.most m hm
      omega
  · dsimp only
    rcases hNP with ⟨_, _, rfl⟩ | ⟨_, _, rfl⟩
    · refine yc h.big fun w hw => ?_
      obtain ⟨k, hk, rfl⟩ := List.getElem_of_mem hw
      have := (fE hl hk).2.2
      rwa [List.getD_eq_getElem?_getD, List.getElem?_eq_getElem hk] at this
    · exact h.big
end Go.Pv
set_option linter.unusedVariables false
set_option linter.unusedSimpArgs false
namespace Go.Pv
open Go.Lib
def hl (n : Nat) : List UInt8 := (headB n).data.toList
theorem Gu (n : Nat) : hl n = 72 :: (itoa n ++ 46 :: (itoa n ++ [59])) := rf n
theorem MW (n : Nat) : (hl n).length = 2 * (itoa n).length + 3 := by
  rw [Gu]; simp only [List.length_cons, List.length_append, List.length_nil]; omega
inductive HLay : Nat → List UInt8 → Prop
  | nil (T : Nat) : HLay T []
  | mk (T n b : Nat) (x : List UInt8) (n' : Nat) : 1 ≤ n → n' ≤ n → n ≤ T → b ≤ (hl n).length → HLay n' x → HLay T (tear (hl n) b x)
theorem HLay.up {T T' : Nat} {x : List UInt8} (h : HLay T x) (hT : T ≤ T') : HLay T' x := by
  cases h with
  | nil => exact .nil _
  | mk T n b x n' h1 h2 h3 h4 h5 => exact .mk _ n b x n' h1 h2 (by omega) h4 h5
theorem HLay.whole {T n : Nat} (h1 : 1 ≤ n) (hT : n ≤ T) : HLay T (hl n) := by
  have := HLay.mk T n (hl n).length [] n h1 (Nat.le_refl _) hT (Nat.le_refl _) (.nil n)
  unfold tear at this
  simpa using this
theorem hl1 {n : Nat} (h : n ≤ 9) : ∃ c, hl n = [72, c, 46, c, 59] ∧ c.toNat = 48 + n := by
  obtain ⟨c, e, hc⟩ := x9 (n := (n : Int)) (by omega)
  exact ⟨c, by rw [Gu, e]; rfl, by omega⟩
theorem hl2 {n : Nat} (h : 10 ≤ n) (h2 : n ≤ 99) : ∃ c d, hl n = [72, c, d, 46, c, d, 59] ∧ c.toNat = 48 + n / 10 ∧ d.toNat = 48 + n % 10 := by
  obtain ⟨c, d, e, hc, hd⟩ := tu (n := (n : Int)) (by omega)
  exact ⟨c, d, by rw [Gu, e]; rfl, by omega, by omega⟩
theorem HLay.len {T : Nat} {x : List UInt8} (h : HLay T x) (hT : T ≤ 29) : x.length ≤ 7 := by
  induction h with
  | nil => exact Nat.zero_le _
  | mk T n b x n' h1 h2 h3 h4 h5 ih =>
    have := ih (by omega)
    have hn : (hl n).length ≤ 7 := by
      by_cases h9 : n ≤ 9
      · obtain ⟨c, e, _⟩ := hl1 h9; rw [e]; simp
      · obtain ⟨c, d, e, _⟩ := hl2 (n := n) (by omega) (by omega); rw [e]; simp
    unfold tear
    simp only [List.length_append, List.length_take, List.length_drop]
    omega
theorem HLay.at4 {T : Nat} {x : List UInt8} (h : HLay T x) (hT : T ≤ 29) {c : UInt8} (hc : x[4]? = some c) : c.toNat = 59 ∨ c.toNat = 49 ∨ c.toNat = 50 ∧ 20 ≤ T := by
  induction h with
  | nil => simp at hc
  | mk T n b x n' h1 h2 h3 h4 h5 ih =>
    rw [lF h4] at hc
    split at hc
    · by_cases h9 : n ≤ 9
      · obtain ⟨d, e, _⟩ := hl1 h9; rw [e] at hc; simp at hc; subst hc; exact .inl (by decide)
      · obtain ⟨d, d', e, hd, _⟩ := hl2 (n := n) (by omega) (by omega); rw [e] at hc; simp at hc; subst hc; omega
    · have := ih (by omega) hc
      omega
theorem HLay.one {T m : Nat} {x : List UInt8} (h : HLay T x) (hT : T ≤ 29) {c d : UInt8} (h3 : x[3]? = some c) (hc : c.toNat = 48 + m) (hm : m ≤ 9) (h0 : x[4]? = some 59) : m ≤ T := by
  induction h with
  | nil => simp at h3
  | mk T n b x n' h1 h2 h3' h4 h5 ih =>
    rw [lF h4] at h3 h0
    split at h3
    · by_cases h9 : n ≤ 9
      · obtain ⟨d, e, hd⟩ := hl1 h9; rw [e] at h3; simp at h3; subst h3; omega
      · obtain ⟨d, d', e, hd, _⟩ := hl2 (n := n) (by omega) (by omega); rw [e] at h3; simp at h3; subst h3
        have : (46 : UInt8).toNat = 46 := by decide
        omega
    · rw [if_neg (by omega)] at h0
      have := ih (by omega) h3 h0
      omega
theorem HLay.two {T m : Nat} {x : List UInt8} (h : HLay T x) (hT : T ≤ 29) (hm : 10 ≤ m ∧ m ≤ 99) {c d : UInt8} (h2 : x[2]? = some d) (h4 : x[4]? = some c) (hc : c.toNat = 48 + m / 10) (hd : d.toNat = 48 + m % 10) : m ≤ T := by
  induction h with
  | nil => simp at h2
  | mk T n b x n' h1 h2' h3' h4' h5 ih =>
    rw [lF h4'] at h2 h4
    split at h2
    · by_cases h9 : n ≤ 9
      · obtain ⟨e1, e, _⟩ := hl1 h9; rw [e] at h2; simp at h2; subst h2
        have : (46 : UInt8).toNat = 46 := by decide
        omega
      · obtain ⟨e1, e2, e, he1, he2⟩ := hl2 (n := n) (by omega) (by omega); rw [e] at h2; simp at h2; subst h2
        split at h4
        · rw [e] at h4; simp at h4; subst h4; omega
        · have := h5.at4 (by omega) h4
          omega
    · rw [if_neg (by omega)] at h4
      have := ih (by omega) h2 h4
      omega
theorem HLay.head {T m : Nat} (h : HLay T (hl m)) (hT : T ≤ 29) : m ≤ T := by
  by_cases h9 : m ≤ 9
  · obtain ⟨c, e, hc⟩ := hl1 h9
    rw [e] at h
    exact h.one hT (d := 0) (by simp) hc h9 (by simp)
  · by_cases h99 : m ≤ 99
    · obtain ⟨c, d, e, hc, hd⟩ := hl2 (n := m) (by omega) h99
      rw [e] at h
      exact h.two hT ⟨by omega, h99⟩ (by simp) (by simp) hc hd
    · exfalso
      have := h.len hT
      have h3 := CO (n := (m : Int)) (by omega)
      rw [MW] at this
      omega
end Go.Pv
set_option linter.unusedVariables false
set_option linter.unusedSimpArgs false
namespace Go.Pv
theorem at_set {c : List ByteArray} {k j : Nat} {x : ByteArray} : cellAt (c.set k x) j = if k = j ∧ k < c.length then x else cellAt c j := by
  unfold cellAt
  rw [List.getD_eq_getElem?_getD, List.getD_eq_getElem?_getD, List.getElem?_set]
  by_cases h : k = j
  · subst h
    by_cases h2 : k < c.length
    · rw [if_pos rfl, if_pos h2, if_pos ⟨rfl, h2⟩]; rfl
    · rw [if_pos rfl, if_neg h2, if_neg (fun h => h2 h.2), List.getElem?_eq_none (by omega)]
  · rw [if_neg h, if_neg (fun e => h e.1)]
theorem oJ {k : Nat} : ∀ (ws : List Wt) (c : List ByteArray), k < c.length → (∃ w ∈ ws, w.cell.toNat = k ∧ cellAt (aj c ws) k = w.text) ∨ ((∀ w ∈ ws, w.cell.toNat ≠ k) ∧ cellAt (aj c ws) k = cellAt c k)
  | [], c, _ => .inr ⟨by simp, rfl⟩
  | w :: ws, c, hk => by
    have e : aj c (w :: ws) = aj (c.set w.cell.toNat w.text) ws := rfl
    rw [e]
    rcases oJ (k := k) ws (c.set w.cell.toNat w.text) (by rw [List.length_set]; exact hk) with ⟨v, hv, h1, h2⟩ | ⟨h1, h2⟩
    · exact .inl ⟨v, List.mem_cons_of_mem _ hv, h1, h2⟩
    · rw [h2, at_set]
      by_cases hw : w.cell.toNat = k
      · rw [if_pos ⟨hw, by omega⟩]
        exact .inl ⟨w, List.mem_cons_self .., hw, rfl⟩
      · rw [if_neg (fun e => hw e.1)]
        refine .inr ⟨fun x hx => ?_, rfl⟩
        rcases List.mem_cons.1 hx with rfl | hx
        · exact hw
        · exact h1 x hx
def fA (text was : ByteArray) (b : Nat) : ByteArray := ofL (tear text.data.toList b was.data.toList)
theorem gW (text was : ByteArray) (b : Nat) : (fA text was b).data.toList = tear text.data.toList b was.data.toList := qy _
def Fell (text was now : ByteArray) : Prop := now = text ∨ ∃ b, b ≤ text.size ∧ now = fA text was b
def cu (keep : Nat → Bool) (cut : Nat → Option (ByteArray → Nat)) : List Wt → Nat → List ByteArray → List ByteArray
  | [], _, c => c
  | w :: ws, i, c => cu keep cut ws (i + 1) (if keep i = true then c.set w.cell.toNat w.text else match cut i with | some f => c.set w.cell.toNat (fA w.text (cellAt c w.cell.toNat) (min (f w.text) w.text.size)) | none => c)
theorem ik (keep : Nat → Bool) (cut : Nat → Option (ByteArray → Nat)) : ∀ (ws : List Wt) (i : Nat) (c : List ByteArray), (cu keep cut ws i c).length = c.length
  | [], _, _ => rfl
  | w :: ws, i, c => by
    unfold cu
    rw [ik]
    split
    · rw [List.length_set]
    · split
      · rw [List.length_set]
      · rfl
theorem CQ (keep : Nat → Bool) (cut : Nat → Option (ByteArray → Nat)) {w : Wt} {i k : Nat} {c : List ByteArray} (hk : k < c.length) :
    (w.cell.toNat = k ∧ Fell w.text (cellAt c k) (cellAt (if keep i = true then c.set w.cell.toNat w.text else match cut i with | some f => c.set w.cell.toNat (fA w.text (cellAt c w.cell.toNat) (min (f w.text) w.text.size)) | none => c) k)) ∨
    cellAt (if keep i = true then c.set w.cell.toNat w.text else match cut i with | some f => c.set w.cell.toNat (fA w.text (cellAt c w.cell.toNat) (min (f w.text) w.text.size)) | none => c) k = cellAt c k := by
  by_cases hw : w.cell.toNat = k
  · subst hw
    split
    · rw [at_set, if_pos ⟨rfl, hk⟩]
      exact .inl ⟨rfl, .inl rfl⟩
    · split
      · rw [at_set, if_pos ⟨rfl, hk⟩]
        exact .inl ⟨rfl, .inr ⟨_, Nat.min_le_right .., rfl⟩⟩
      · exact .inr rfl
  · split
    · rw [at_set, if_neg (fun e => hw e.1)]; exact .inr rfl
    · split
      · rw [at_set, if_neg (fun e => hw e.1)]; exact .inr rfl
      · exact .inr rfl
theorem pK (keep : Nat → Bool) (cut : Nat → Option (ByteArray → Nat)) {k : Nat} : ∀ (ws : List Wt) (i : Nat) (c : List ByteArray), k < c.length → (ws.map fun w => w.cell.toNat).Nodup →
    cellAt (cu keep cut ws i c) k = cellAt c k ∨ ∃ w ∈ ws, w.cell.toNat = k ∧ Fell w.text (cellAt c k) (cellAt (cu keep cut ws i c) k)
  | [], i, c, _, _ => .inl rfl
  | w :: ws, i, c, hk, hn => by
    have e : cu keep cut (w :: ws) i c = cu keep cut ws (i + 1) (if keep i = true then c.set w.cell.toNat w.text else match cut i with | some f => c.set w.cell.toNat (fA w.text (cellAt c w.cell.toNat) (min (f w.text) w.text.size)) | none => c) := rfl
    rw [e]
    have h1 := CQ keep cut (w := w) (i := i) (c := c) hk
    have hl : k < (if keep i = true then c.set w.cell.toNat w.text else match cut i with | some f => c.set w.cell.toNat (fA w.text (cellAt c w.cell.toNat) (min (f w.text) w.text.size)) | none => c).length := by
      split
      · rw [List.length_set]; exact hk
      · split
        · rw [List.length_set]; exact hk
        · exact hk
    generalize (if keep i = true then c.set w.cell.toNat w.text else match cut i with | some f => c.set w.cell.toNat (fA w.text (cellAt c w.cell.toNat) (min (f w.text) w.text.size)) | none => c) = c' at h1 hl ⊢
    rw [List.map_cons, List.nodup_cons] at hn
    have h2 := pK keep cut (k := k) ws (i + 1) c' hl hn.2
    rcases h1 with ⟨hw, h1⟩ | h1
    · rcases h2 with h2 | ⟨v, hv, hvk, _⟩
      · exact .inr ⟨w, List.mem_cons_self .., hw, by rw [h2]; exact h1⟩
      · exact absurd (List.mem_map.2 ⟨v, hv, hvk⟩) (hw ▸ hn.1)
    · rw [h1] at h2
      rcases h2 with h2 | ⟨v, hv, hvk, h3⟩
      · exact .inl h2
      · exact .inr ⟨v, List.mem_cons_of_mem _ hv, hvk, h3⟩
theorem CS {text was : ByteArray} {b n : Nat} (h1 : text.size ≤ n) (h2 : was.size ≤ n) : (fA text was b).size ≤ n := by
  have e : (fA text was b).size = (tear text.data.toList b was.data.toList).length := FD _
  rw [e]
  have e1 := mD text
  have e2 := mD was
  unfold tear
  simp only [List.length_append, List.length_take, List.length_drop]
  omega
theorem oK {text was now : ByteArray} {n : Nat} (h : Fell text was now) (h1 : text.size ≤ n) (h2 : was.size ≤ n) : now.size ≤ n := by
  rcases h with rfl | ⟨b, _, rfl⟩
  · exact h1
  · exact CS h1 h2
theorem Rd.put {g : Nat → Int × Bool × Wt} {n N : Nat} {a A : Int} {P Q : List ByteArray} (h : Rd g n a P N A Q) : ∃ ws, Q = aj P ws ∧ ∀ P', Rd g n a P' N A (aj P' ws) := by
  induction h with
  | stop n a P h0 => exact ⟨[], rfl, fun P' => .stop n a P' h0⟩
  | more n a P N A Q h0 h1 ih =>
    obtain ⟨ws, e, hr⟩ := ih
    refine ⟨(aY g a (20 - n) n 0 []).2.2 ++ ws, ?_, fun P' => ?_⟩
    · rw [e]; unfold aj; rw [List.foldl_append]
    · refine .more n a P' N A _ h0 ?_
      have := hr (aj P' (aY g a (20 - n) n 0 []).2.2)
      unfold aj at this ⊢
      rw [List.foldl_append]
      exact this
theorem rD {P Q : List ByteArray} (hl : P.length = Q.length) (h : ∀ k, k < P.length → cellAt P k = cellAt Q k) : P = Q := by
  refine List.ext_getElem hl fun k h1 h2 => ?_
  have := h k h1
  unfold cellAt at this
  rw [List.getD_eq_getElem?_getD, List.getD_eq_getElem?_getD, List.getElem?_eq_getElem h1, List.getElem?_eq_getElem h2] at this
  exact this
theorem Gv {P P' : List ByteArray} {ws : List Wt} (hl : P'.length = P.length) (h : ∀ k, k < P.length → cellAt P' k = cellAt P k ∨ cellAt P k ≠ cellAt (aj P ws) k ∨ cellAt P' k = cellAt (aj P ws) k) : aj P' ws = aj P ws := by
  refine rD (by rw [aQ, aQ, hl]) fun k hk => ?_
  rw [aQ] at hk
  have key : ∀ (ws : List Wt) (P P' : List ByteArray), P'.length = P.length → k < P.length → (∃ w ∈ ws, w.cell.toNat = k) → cellAt (aj P' ws) k = cellAt (aj P ws) k := by
    intro ws
    induction ws with
    | nil => intro P P' _ _ ⟨w, hw, _⟩; cases hw
    | cons w ws ih =>
      intro P P' hl hk hw
      show cellAt (aj (P'.set w.cell.toNat w.text) ws) k = cellAt (aj (P.set w.cell.toNat w.text) ws) k
      by_cases h2 : ∃ v ∈ ws, v.cell.toNat = k
      · exact ih _ _ (by rw [List.length_set, List.length_set, hl]) (by rw [List.length_set]; exact hk) h2
      · have hwk : w.cell.toNat = k := by
          obtain ⟨v, hv, e⟩ := hw
          rcases List.mem_cons.1 hv with rfl | hv
          · exact e
          · exact absurd ⟨v, hv, e⟩ h2
        have h3 : ∀ (R : List ByteArray), k < R.length → cellAt (aj R ws) k = cellAt R k := fun R hR => by
          rcases oJ (k := k) ws R hR with ⟨v, hv, e, _⟩ | ⟨_, e⟩
          · exact absurd ⟨v, hv, e⟩ h2
          · exact e
        rw [h3 _ (by rw [List.length_set]; omega), h3 _ (by rw [List.length_set]; omega), at_set, at_set, if_pos ⟨hwk, by omega⟩, if_pos ⟨hwk, by omega⟩]
  by_cases hw : ∃ w ∈ ws, w.cell.toNat = k
  · exact key ws P P' hl (by omega) hw
  · have h3 : ∀ (R : List ByteArray), k < R.length → cellAt (aj R ws) k = cellAt R k := fun R hR => by
      rcases oJ (k := k) ws R hR with ⟨v, hv, e, _⟩ | ⟨_, e⟩
      · exact absurd ⟨v, hv, e⟩ hw
      · exact e
    have h4 := h k (by omega)
    rw [h3 P (by omega)] at h4
    rw [h3 P (by omega), h3 P' hk]
    rcases h4 with h4 | h4 | h4
    · exact h4
    · exact absurd rfl h4
    · exact h4
structure DataOk (s : Stor) (c' : List ByteArray) : Prop where
  len : c'.length = 42
  out : ∀ k, k < 2 ∨ 22 ≤ k → cellAt c' k = cellAt s.disk.cells k
  data : ∀ q, q < 20 → cellAt c' (2 + q) = cellAt s.disk.cells (2 + q) ∨ cellAt s.disk.cells (2 + q) ≠ cellAt s.pages q ∨ cellAt c' (2 + q) = cellAt s.pages q
  small : ∀ k, (cellAt c' k).size ≤ 1200
theorem jk {c : List ByteArray} {q : Nat} (hl : c.length = 42) (hq : q < 20) : cellAt (ay c) q = cellAt c (2 + q) := by
  unfold cellAt ay
  rw [List.getD_eq_getElem?_getD, List.getElem?_take, if_pos hq, List.getElem?_drop, ← List.getD_eq_getElem?_getD]
theorem bP {c : List ByteArray} (hl : c.length = 42) : (ay c).length = 20 := by
  unfold ay
  rw [List.length_take, List.length_drop, hl]
  rfl
theorem Good.pages_len {s : Stor} (h : Good s) : s.pages.length = 20 := by
  obtain ⟨A, hA⟩ := h.read
  obtain ⟨ws, e, _⟩ := hA.put
  rw [e, aQ, bP h.len]
theorem OY {c c' : List ByteArray} (h : ∀ k, k < 2 ∨ 22 ≤ k → cellAt c' k = cellAt c k) (T : Int) : gOf c' T = gOf c T := by
  funext n
  have := h (22 + n) (.inr (by omega))
  unfold cellAt at this
  unfold gOf
  rw [this]
theorem rE {s : Stor} {c' : List ByteArray} {rm lf : Int} (h : Good s) (hd : DataOk s c') : Good ⟨⟨c', [], rm, lf⟩, s.turn, s.tries, s.next, s.pages⟩ := by
  obtain ⟨A, hA⟩ := h.read
  obtain ⟨ws, e, hr⟩ := hA.put
  have hg := OY hd.out s.turn
  refine { len := hd.len, waits := rfl, small := hd.small, turn := h.turn, tries := h.tries, next := h.next, heads := ?_, late := ?_, read := ⟨A, ?_⟩, most := ?_, big := h.big }
  · dsimp only
    rw [hd.out 0 (.inl (by omega)), hd.out 1 (.inl (by omega))]
    exact h.heads
  · intro m f hm hf hp hc
    refine h.late m f hm hf hp ?_
    have := hd.out (22 + m) (.inr (by omega))
    exact this.symm.trans hc
  · dsimp only
    rw [hg]
    have := hr (ay c')
    rw [Gv (P := ay s.disk.cells) (by rw [bP hd.len, bP h.len]) (fun k hk => by
      rw [bP h.len] at hk
      rw [jk hd.len hk, jk h.len hk, ← e]
      exact hd.data k hk), ← e] at this
    exact this
  · dsimp only
    rw [hg]
    exact h.most
theorem rF {s : Stor} {c' : List ByteArray} {rm lf : Int} (h : Good s) (h9 : s.turn < 99999) (hl : c'.length = 42) (hlog : ∀ m, m < 20 → cellAt c' (22 + m) = cellAt s.disk.cells (22 + m)) (hdt : ∀ q, q < 20 → cellAt c' (2 + q) = cellAt s.pages q) (hsm : ∀ k, (cellAt c' k).size ≤ 1200)
    (hh : max (aA (cellAt c' 0) 0) (aA (cellAt c' 1) 1) = s.turn + 1) : Good ⟨⟨c', [], rm, lf⟩, s.turn + 1, 0, 0, s.pages⟩ := by
  have ht := h.turn
  have hpl := h.pages_len
  have hnl : nV c' s.turn := fun m f hm hf hp hc => h.late m f hm hf hp ((hlog m hm).symm.trans hc)
  have hz : ∀ m, m < 20 → (gOf c' (s.turn + 1) m).1 ≤ 0 := fun m hm => by
    rcases Int.lt_or_le 0 (gOf c' (s.turn + 1) m).1 with hp | hp
    · obtain ⟨f, hf, e1, e2, e3, _⟩ := Gs (by omega) hm hp
      have := hnl m f hm hf e2 e3.symm
      omega
    · exact hp
  have hpg : ay c' = s.pages := rD (by rw [bP hl, hpl]) fun k hk => by
    rw [bP hl] at hk
    rw [jk hl hk, hdt k hk]
  refine { len := hl, waits := rfl, small := hsm, turn := ?_, tries := ?_, next := Int.le_refl 0, heads := hh, late := ?_, read := ⟨0, ?_⟩, most := ?_, big := h.big }
  · dsimp only; omega
  · dsimp only; omega
  · intro m f hm hf hp hc
    have := hnl m f hm hf hp hc
    dsimp only
    omega
  · dsimp only
    rw [hpg]
    refine .stop _ _ _ ?_
    show (aY (gOf c' (s.turn + 1)) 0 20 0 0 []).1 ≤ 0
    unfold aY
    rw [if_pos (.inl (hz 0 (by omega)))]
    exact Int.le_refl 0
  · exact hz
end Go.Pv
